/- A part of the proof of a law of the seat: Go functions as plain Lean functions, and the proofs that the machine's calls do what these do, under no condition but the row's own. Laid by this session's wip/tools/hprint.py, over the kit's print and this session's own contracts. -/
import Derived.Test.YtcbglmdnfipgnaaPx0
import Derived.Test.YtcbglmdnfipgnaaPx1
import Derived.Test.YtcbglmdnfipgnaaPx2
import Derived.Test.YtcbglmdnfipgnaaPx3
import Derived.Test.YtcbglmdnfipgnaaPx12
namespace Go.Proofs.Ytcbglmdnfipgnaa.P
open Go.RowKit Go.Proofs.YtcbglmdnfipgnaaW.PrintWords Go.Proofs.YtcbglmdnfipgnaaW.PrintLast Go.Proofs.YtcbglmdnfipgnaaW.PrintMore
attribute [local go_sem] max2_int min2_int max_two min_two max_three min_three max_four min_four   -- for this text's walks alone
set_option linter.unusedVariables false
set_option linter.unusedSimpArgs false

/-! ### stereopsislaw01_WordDoes: function 8 -/
mutual
def stereopsislaw01_WordDoes.j0 : Nat → Int → Int → Int → Int → Int → Int → Int → Int → Int → Int → Bool → Option (Bool)
  | 0, _, _, _, _, _, _, _, _, _, _, _ => none
  | k + 1, x0, x1, x2, x3, x9, x10, x11, x12, x13, x14, x48 => if x48 = true then (if x9 = 0 then (if x10 = 1 then (stereopsislaw01_WordDoes.j1 k x1 x2 x11 x12 x13 x14) else (some false)) else (some false)) else ((stereopsisref01_Do.f k x0 x1 x2 x3).bind fun t336 => (if x9 = t336 then (if x10 = 0 then (stereopsislaw01_WordDoes.j1 k x1 x2 x11 x12 x13 x14) else (some false)) else (some false)))
def stereopsislaw01_WordDoes.j1 : Nat → Int → Int → Int → Int → Int → Int → Option (Bool)
  | 0, _, _, _, _, _, _ => none
  | k + 1, x1, x2, x11, x12, x13, x14 => (stereopsisref01_Word.f k x1 x2).bind fun t337 => (if t337 = true then ((stereopsisref01_Not.f k x1 x2).bind fun t338 => (if x11 = t338 then (if x12 = 0 then (stereopsislaw01_WordDoes.j2 k x1 x13 x14) else (some false)) else (some false))) else (if x11 = 0 then (if x12 = 1 then (stereopsislaw01_WordDoes.j2 k x1 x13 x14) else (some false)) else (some false)))
def stereopsislaw01_WordDoes.j2 : Nat → Int → Int → Int → Option (Bool)
  | 0, _, _, _ => none
  | k + 1, x1, x13, x14 => (stereopsisref01_Width.f x1).bind fun t339 => (if t339 = true then ((stereopsisref01_Top.f k x1).bind fun t340 => (if x13 = t340 then (if x14 = 0 then ((stereopsislaw01_awake.f k).bind fun t341 => (some t341)) else (some false)) else (some false))) else (if x13 = 0 then (if x14 = 1 then ((stereopsislaw01_awake.f k).bind fun t342 => (some t342)) else (some false)) else (some false)))
end
def stereopsislaw01_WordDoes.f (k : Nat) (a0 : Int) (a1 : Int) (a2 : Int) (a3 : Int) : Option (Bool) := (word_Do.f k a0 a1 a2 a3).bind fun bt327 => ((word_Not.f k a1 a2).bind fun bt329 => ((word_Top.f k a1).bind fun bt331 => ((stereopsisref01_Word.f k a1 a2).bind fun t333 => (if t333 = true then ((stereopsisref01_Word.f k a1 a3).bind fun t334 => (if t334 = true then ((stereopsisref01_Two.f a0).bind fun t335 => (stereopsislaw01_WordDoes.j0 k a0 a1 a2 a3 bt327.1 bt327.2 bt329.1 bt329.2 bt331.1 bt331.2 (!t335))) else (stereopsislaw01_WordDoes.j0 k a0 a1 a2 a3 bt327.1 bt327.2 bt329.1 bt329.2 bt331.1 bt331.2 true))) else (stereopsislaw01_WordDoes.j0 k a0 a1 a2 a3 bt327.1 bt327.2 bt329.1 bt329.2 bt331.1 bt331.2 true)))))
theorem stereopsislaw01_WordDoes.mono_l : ∀ k, (∀ y0 y1 y2 y3 y4 y5 y6 y7 y8 y9 y10, LeO (stereopsislaw01_WordDoes.j0 k y0 y1 y2 y3 y4 y5 y6 y7 y8 y9 y10) (stereopsislaw01_WordDoes.j0 (k + 1) y0 y1 y2 y3 y4 y5 y6 y7 y8 y9 y10)) ∧ (∀ y0 y1 y2 y3 y4 y5, LeO (stereopsislaw01_WordDoes.j1 k y0 y1 y2 y3 y4 y5) (stereopsislaw01_WordDoes.j1 (k + 1) y0 y1 y2 y3 y4 y5)) ∧ (∀ y0 y1 y2, LeO (stereopsislaw01_WordDoes.j2 k y0 y1 y2) (stereopsislaw01_WordDoes.j2 (k + 1) y0 y1 y2))
  | 0 => ⟨fun _ _ _ _ _ _ _ _ _ _ _ r h => by simp [stereopsislaw01_WordDoes.j0] at h, fun _ _ _ _ _ _ r h => by simp [stereopsislaw01_WordDoes.j1] at h, fun _ _ _ r h => by simp [stereopsislaw01_WordDoes.j2] at h⟩
  | k + 1 => by
    obtain ⟨ih0, ih1, ih2⟩ := stereopsislaw01_WordDoes.mono_l k
    refine ⟨?_, ?_, ?_⟩
    · intro y0 y1 y2 y3 y4 y5 y6 y7 y8 y9 y10
      unfold stereopsislaw01_WordDoes.j0
      repeat' first
      | (with_reducible exact ih0 _ _ _ _ _ _ _ _ _ _ _)
      | (with_reducible exact ih1 _ _ _ _ _ _)
      | (with_reducible exact ih2 _ _ _)
      | (with_reducible exact stereopsislaw01_awake.mono _)
      | (with_reducible exact stereopsisref01_Do.mono _ _ _ _ _)
      | (with_reducible exact stereopsisref01_Not.mono _ _ _)
      | (with_reducible exact stereopsisref01_Top.mono _ _)
      | (with_reducible exact stereopsisref01_Word.mono _ _ _)
      | (with_reducible exact word_Do.mono _ _ _ _ _)
      | (with_reducible exact word_Not.mono _ _ _)
      | (with_reducible exact word_Top.mono _ _)
      | (with_reducible exact LeO.refl _)
      | (with_reducible exact LeO.none _)
      | (with_reducible refine LeO.ite ?_ ?_)
      | (with_reducible refine LeO.bind ?_ (fun _ => ?_))
      | exact ih0 _ _ _ _ _ _ _ _ _ _ _
      | exact ih1 _ _ _ _ _ _
      | exact ih2 _ _ _
      | exact stereopsislaw01_awake.mono _
      | exact stereopsisref01_Do.mono _ _ _ _ _
      | exact stereopsisref01_Not.mono _ _ _
      | exact stereopsisref01_Top.mono _ _
      | exact stereopsisref01_Word.mono _ _ _
      | exact word_Do.mono _ _ _ _ _
      | exact word_Not.mono _ _ _
      | exact word_Top.mono _ _
      | exact LeO.none _
      | refine LeO.ite ?_ ?_
      | refine LeO.bind ?_ (fun _ => ?_)
    · intro y0 y1 y2 y3 y4 y5
      unfold stereopsislaw01_WordDoes.j1
      repeat' first
      | (with_reducible exact ih0 _ _ _ _ _ _ _ _ _ _ _)
      | (with_reducible exact ih1 _ _ _ _ _ _)
      | (with_reducible exact ih2 _ _ _)
      | (with_reducible exact stereopsislaw01_awake.mono _)
      | (with_reducible exact stereopsisref01_Do.mono _ _ _ _ _)
      | (with_reducible exact stereopsisref01_Not.mono _ _ _)
      | (with_reducible exact stereopsisref01_Top.mono _ _)
      | (with_reducible exact stereopsisref01_Word.mono _ _ _)
      | (with_reducible exact word_Do.mono _ _ _ _ _)
      | (with_reducible exact word_Not.mono _ _ _)
      | (with_reducible exact word_Top.mono _ _)
      | (with_reducible exact LeO.refl _)
      | (with_reducible exact LeO.none _)
      | (with_reducible refine LeO.ite ?_ ?_)
      | (with_reducible refine LeO.bind ?_ (fun _ => ?_))
      | exact ih0 _ _ _ _ _ _ _ _ _ _ _
      | exact ih1 _ _ _ _ _ _
      | exact ih2 _ _ _
      | exact stereopsislaw01_awake.mono _
      | exact stereopsisref01_Do.mono _ _ _ _ _
      | exact stereopsisref01_Not.mono _ _ _
      | exact stereopsisref01_Top.mono _ _
      | exact stereopsisref01_Word.mono _ _ _
      | exact word_Do.mono _ _ _ _ _
      | exact word_Not.mono _ _ _
      | exact word_Top.mono _ _
      | exact LeO.none _
      | refine LeO.ite ?_ ?_
      | refine LeO.bind ?_ (fun _ => ?_)
    · intro y0 y1 y2
      unfold stereopsislaw01_WordDoes.j2
      repeat' first
      | (with_reducible exact ih0 _ _ _ _ _ _ _ _ _ _ _)
      | (with_reducible exact ih1 _ _ _ _ _ _)
      | (with_reducible exact ih2 _ _ _)
      | (with_reducible exact stereopsislaw01_awake.mono _)
      | (with_reducible exact stereopsisref01_Do.mono _ _ _ _ _)
      | (with_reducible exact stereopsisref01_Not.mono _ _ _)
      | (with_reducible exact stereopsisref01_Top.mono _ _)
      | (with_reducible exact stereopsisref01_Word.mono _ _ _)
      | (with_reducible exact word_Do.mono _ _ _ _ _)
      | (with_reducible exact word_Not.mono _ _ _)
      | (with_reducible exact word_Top.mono _ _)
      | (with_reducible exact LeO.refl _)
      | (with_reducible exact LeO.none _)
      | (with_reducible refine LeO.ite ?_ ?_)
      | (with_reducible refine LeO.bind ?_ (fun _ => ?_))
      | exact ih0 _ _ _ _ _ _ _ _ _ _ _
      | exact ih1 _ _ _ _ _ _
      | exact ih2 _ _ _
      | exact stereopsislaw01_awake.mono _
      | exact stereopsisref01_Do.mono _ _ _ _ _
      | exact stereopsisref01_Not.mono _ _ _
      | exact stereopsisref01_Top.mono _ _
      | exact stereopsisref01_Word.mono _ _ _
      | exact word_Do.mono _ _ _ _ _
      | exact word_Not.mono _ _ _
      | exact word_Top.mono _ _
      | exact LeO.none _
      | refine LeO.ite ?_ ?_
      | refine LeO.bind ?_ (fun _ => ?_)
theorem stereopsislaw01_WordDoes.mono : ∀ a0 a1 a2 a3 k, LeO (stereopsislaw01_WordDoes.f k a0 a1 a2 a3) (stereopsislaw01_WordDoes.f (k + 1) a0 a1 a2 a3) := by
  intro a0 a1 a2 a3 k
  obtain ⟨ih0, ih1, ih2⟩ := stereopsislaw01_WordDoes.mono_l k
  unfold stereopsislaw01_WordDoes.f
  repeat' first
      | (with_reducible exact ih0 _ _ _ _ _ _ _ _ _ _ _)
      | (with_reducible exact ih1 _ _ _ _ _ _)
      | (with_reducible exact ih2 _ _ _)
      | (with_reducible exact stereopsislaw01_awake.mono _)
      | (with_reducible exact stereopsisref01_Do.mono _ _ _ _ _)
      | (with_reducible exact stereopsisref01_Not.mono _ _ _)
      | (with_reducible exact stereopsisref01_Top.mono _ _)
      | (with_reducible exact stereopsisref01_Word.mono _ _ _)
      | (with_reducible exact word_Do.mono _ _ _ _ _)
      | (with_reducible exact word_Not.mono _ _ _)
      | (with_reducible exact word_Top.mono _ _)
      | (with_reducible exact LeO.refl _)
      | (with_reducible exact LeO.none _)
      | (with_reducible refine LeO.ite ?_ ?_)
      | (with_reducible refine LeO.bind ?_ (fun _ => ?_))
      | exact ih0 _ _ _ _ _ _ _ _ _ _ _
      | exact ih1 _ _ _ _ _ _
      | exact ih2 _ _ _
      | exact stereopsislaw01_awake.mono _
      | exact stereopsisref01_Do.mono _ _ _ _ _
      | exact stereopsisref01_Not.mono _ _ _
      | exact stereopsisref01_Top.mono _ _
      | exact stereopsisref01_Word.mono _ _ _
      | exact word_Do.mono _ _ _ _ _
      | exact word_Not.mono _ _ _
      | exact word_Top.mono _ _
      | exact LeO.none _
      | refine LeO.ite ?_ ?_
      | refine LeO.bind ?_ (fun _ => ?_)
set_option maxHeartbeats 8000000 in
set_option maxRecDepth 100000 in
theorem stereopsislaw01_WordDoes.calls (k : Nat) (a0 : Int) (a1 : Int) (a2 : Int) (a3 : Int) (w : World) (h : stereopsislaw01_WordDoes.f k a0 a1 a2 a3 = some true) :
    Calls Try.prog 8 #[.int .i64 a0, .int .i64 a1, .int .i64 a2, .int .i64 a3] w fun e w' => e = .returned (.bool true) ∧ Below w.heap.size w w' := by
  have HB := Aside0.mk (Below.refl w.heap.size w)
  have H : ((word_Do.f k a0 a1 a2 a3).bind fun bt327 => ((word_Not.f k a1 a2).bind fun bt329 => ((word_Top.f k a1).bind fun bt331 => ((stereopsisref01_Word.f k a1 a2).bind fun t333 => (if t333 = true then ((stereopsisref01_Word.f k a1 a3).bind fun t334 => (if t334 = true then ((stereopsisref01_Two.f a0).bind fun t335 => (stereopsislaw01_WordDoes.j0 k a0 a1 a2 a3 bt327.1 bt327.2 bt329.1 bt329.2 bt331.1 bt331.2 (!t335))) else (stereopsislaw01_WordDoes.j0 k a0 a1 a2 a3 bt327.1 bt327.2 bt329.1 bt329.2 bt331.1 bt331.2 true))) else (stereopsislaw01_WordDoes.j0 k a0 a1 a2 a3 bt327.1 bt327.2 bt329.1 bt329.2 bt331.1 bt331.2 true)))))) = some true := h
  clear h
  replace H := Option.bind_eq_some_iff.mp H
  obtain ⟨⟨t327, t328⟩, A50, H⟩ := H
  replace H : ((word_Not.f k a1 a2).bind fun bt329 => ((word_Top.f k a1).bind fun bt331 => ((stereopsisref01_Word.f k a1 a2).bind fun t333 => (if t333 = true then ((stereopsisref01_Word.f k a1 a3).bind fun t334 => (if t334 = true then ((stereopsisref01_Two.f a0).bind fun t335 => (stereopsislaw01_WordDoes.j0 k a0 a1 a2 a3 t327 t328 bt329.1 bt329.2 bt331.1 bt331.2 (!t335))) else (stereopsislaw01_WordDoes.j0 k a0 a1 a2 a3 t327 t328 bt329.1 bt329.2 bt331.1 bt331.2 true))) else (stereopsislaw01_WordDoes.j0 k a0 a1 a2 a3 t327 t328 bt329.1 bt329.2 bt331.1 bt331.2 true))))) = some true := H
  have A5 := Aside0.mk A50
  clear A50
  replace H := Option.bind_eq_some_iff.mp H
  obtain ⟨⟨t329, t330⟩, A60, H⟩ := H
  replace H : ((word_Top.f k a1).bind fun bt331 => ((stereopsisref01_Word.f k a1 a2).bind fun t333 => (if t333 = true then ((stereopsisref01_Word.f k a1 a3).bind fun t334 => (if t334 = true then ((stereopsisref01_Two.f a0).bind fun t335 => (stereopsislaw01_WordDoes.j0 k a0 a1 a2 a3 t327 t328 t329 t330 bt331.1 bt331.2 (!t335))) else (stereopsislaw01_WordDoes.j0 k a0 a1 a2 a3 t327 t328 t329 t330 bt331.1 bt331.2 true))) else (stereopsislaw01_WordDoes.j0 k a0 a1 a2 a3 t327 t328 t329 t330 bt331.1 bt331.2 true)))) = some true := H
  have A6 := Aside0.mk A60
  clear A60
  replace H := Option.bind_eq_some_iff.mp H
  obtain ⟨⟨t331, t332⟩, A70, H⟩ := H
  replace H : ((stereopsisref01_Word.f k a1 a2).bind fun t333 => (if t333 = true then ((stereopsisref01_Word.f k a1 a3).bind fun t334 => (if t334 = true then ((stereopsisref01_Two.f a0).bind fun t335 => (stereopsislaw01_WordDoes.j0 k a0 a1 a2 a3 t327 t328 t329 t330 t331 t332 (!t335))) else (stereopsislaw01_WordDoes.j0 k a0 a1 a2 a3 t327 t328 t329 t330 t331 t332 true))) else (stereopsislaw01_WordDoes.j0 k a0 a1 a2 a3 t327 t328 t329 t330 t331 t332 true))) = some true := H
  have A7 := Aside0.mk A70
  clear A70
  have HC8 := Aside0.mk H
  clear H
  go_enter Try.func8, Try.ntmps8
  go_upto_region 4 with (first | ((with_reducible refine gate_callee (f := 21) rfl ?_); refine goesL_ (some 20) rfl rfl Try.func21 (by kernel_rfl) rfl #[.int .i64 a0, .int .i64 a1, .int .i64 a2, .int .i64 a3] rfl (by (try simp only [List.map_toArray, List.map_cons, List.map_nil]); first | done | rfl | (simp only [List.length_drop, List.length_take]; rfl)) ?_; (with_reducible refine (word_Do.calls k a0 a1 a2 a3 t327 t328 _ A5.out).mono ?_); rintro e w9 ⟨rfl, hb⟩; refine ⟨_, rfl, ?_⟩; have n0_ := Aside0.mk (below_step (by repeat (first | (with_reducible first | exact HB.out | apply below_alloc | apply pw_below_drewN | apply below_drew1) | exact HB.out)) hb); clear HB; have HB := n0_; clear n0_; (try clear hb); (try clear hb2); (try clear hk); (try clear hi)) | ((with_reducible refine gate_callee (f := 17) rfl ?_); refine goesL_ (some 26) rfl rfl Try.func17 (by kernel_rfl) rfl #[.int .i64 a1, .int .i64 a2] rfl (by (try simp only [List.map_toArray, List.map_cons, List.map_nil]); first | done | rfl | (simp only [List.length_drop, List.length_take]; rfl)) ?_; (with_reducible refine (word_Not.calls k a1 a2 t329 t330 _ A6.out).mono ?_); rintro e w10 ⟨rfl, hb⟩; refine ⟨_, rfl, ?_⟩; have n0_ := Aside0.mk (below_step (by repeat (first | (with_reducible first | exact HB.out | apply below_alloc | apply pw_below_drewN | apply below_drew1) | exact HB.out)) hb); clear HB; have HB := n0_; clear n0_; (try clear hb); (try clear hb2); (try clear hk); (try clear hi)) | ((with_reducible refine gate_callee (f := 22) rfl ?_); refine goesL_ (some 31) rfl rfl Try.func22 (by kernel_rfl) rfl #[.int .i64 a1] rfl (by (try simp only [List.map_toArray, List.map_cons, List.map_nil]); first | done | rfl | (simp only [List.length_drop, List.length_take]; rfl)) ?_; (with_reducible refine (word_Top.calls k a1 t331 t332 _ A7.out).mono ?_); rintro e w' ⟨rfl, ⟨nd, rfl⟩⟩; refine ⟨_, rfl, ?_⟩))
  (try simp only [Act.put, List.setIfInBounds_toArray, List.set_cons_zero, List.set_cons_succ])
  go_cut [48] (fun v48 wc => ∃ (kq : Nat) (x48_7 : Bool), v48 = .bool x48_7 ∧ Aside0 (stereopsislaw01_WordDoes.j0 kq a0 a1 a2 a3 t327 t328 t329 t330 t331 t332 x48_7 = some true) ∧ Aside0 (kq ≤ k) ∧ Aside0 (Below w.heap.size w wc))
  case first =>
    have H := HC8.out
    clear HC8
    replace H := Option.bind_eq_some_iff.mp H
    obtain ⟨t333, A110, H⟩ := H
    replace H : (if t333 = true then ((stereopsisref01_Word.f k a1 a3).bind fun t334 => (if t334 = true then ((stereopsisref01_Two.f a0).bind fun t335 => (stereopsislaw01_WordDoes.j0 k a0 a1 a2 a3 t327 t328 t329 t330 t331 t332 (!t335))) else (stereopsislaw01_WordDoes.j0 k a0 a1 a2 a3 t327 t328 t329 t330 t331 t332 true))) else (stereopsislaw01_WordDoes.j0 k a0 a1 a2 a3 t327 t328 t329 t330 t331 t332 true)) = some true := H
    have A11 := Aside0.mk A110
    clear A110
    by_cases c12 : t333 = true
    · subst c12
      have H1 : ((stereopsisref01_Word.f k a1 a3).bind fun t334 => (if t334 = true then ((stereopsisref01_Two.f a0).bind fun t335 => (stereopsislaw01_WordDoes.j0 k a0 a1 a2 a3 t327 t328 t329 t330 t331 t332 (!t335))) else (stereopsislaw01_WordDoes.j0 k a0 a1 a2 a3 t327 t328 t329 t330 t331 t332 true))) = some true := by rw [if_pos rfl] at H; exact H
      clear H
      have H := H1
      clear H1
      replace H := Option.bind_eq_some_iff.mp H
      obtain ⟨t334, A130, H⟩ := H
      replace H : (if t334 = true then ((stereopsisref01_Two.f a0).bind fun t335 => (stereopsislaw01_WordDoes.j0 k a0 a1 a2 a3 t327 t328 t329 t330 t331 t332 (!t335))) else (stereopsislaw01_WordDoes.j0 k a0 a1 a2 a3 t327 t328 t329 t330 t331 t332 true)) = some true := H
      have A13 := Aside0.mk A130
      clear A130
      by_cases c14 : t334 = true
      · subst c14
        have H1 : ((stereopsisref01_Two.f a0).bind fun t335 => (stereopsislaw01_WordDoes.j0 k a0 a1 a2 a3 t327 t328 t329 t330 t331 t332 (!t335))) = some true := by rw [if_pos rfl] at H; exact H
        clear H
        have H := H1
        clear H1
        replace H := Option.bind_eq_some_iff.mp H
        obtain ⟨t335, A150, H⟩ := H
        replace H : (stereopsislaw01_WordDoes.j0 k a0 a1 a2 a3 t327 t328 t329 t330 t331 t332 (!t335)) = some true := H
        have A15 := Aside0.mk A150
        clear A150
        as_aux_lemma =>
          have H' := Aside0.mk H
          clear H
          go_wp2_with (first | ((with_reducible refine gate_callee (f := 10) rfl ?_); refine goesL_ (some 36) rfl rfl Try.func10 (by kernel_rfl) rfl #[.int .i64 a1, .int .i64 a2] rfl (by (try simp only [List.map_toArray, List.map_cons, List.map_nil]); first | done | rfl | (simp only [List.length_drop, List.length_take]; rfl)) ?_; (with_reducible refine (stereopsisref01_Word.calls k a1 a2 true _ A11.out).mono ?_); rintro e w' ⟨rfl, ⟨nd, rfl⟩⟩; refine ⟨_, rfl, ?_⟩) | (go_at_call 10; (with_reducible refine (stereopsisref01_Word.calls k a1 a3 true _ A13.out).mono ?_); rintro e w' ⟨rfl, ⟨nd, rfl⟩⟩) | (go_at_call 23; (with_reducible refine (stereopsisref01_Two.calls a0 t335 _ A15.out).mono ?_); rintro e w' ⟨rfl, ⟨nd, rfl⟩⟩))
          go_meet
          case rel => exact ⟨_, (!t335), (by first | rfl | (simp; done) | (simp [*]; done)), H', ⟨by first | omega | exact Nat.le_refl _⟩, ⟨by repeat (first | (with_reducible first | exact HB.out | apply below_alloc | apply pw_below_drewN | apply below_drew1) | exact HB.out)⟩⟩
      · replace c14 := Bool.eq_false_iff.mpr c14
        subst c14
        have H1 : (stereopsislaw01_WordDoes.j0 k a0 a1 a2 a3 t327 t328 t329 t330 t331 t332 true) = some true := by rw [if_neg (show ¬ (false = true) by decide)] at H; exact H
        clear H
        have H := H1
        clear H1
        as_aux_lemma =>
          have H' := Aside0.mk H
          clear H
          go_wp2_with (first | ((with_reducible refine gate_callee (f := 10) rfl ?_); refine goesL_ (some 36) rfl rfl Try.func10 (by kernel_rfl) rfl #[.int .i64 a1, .int .i64 a2] rfl (by (try simp only [List.map_toArray, List.map_cons, List.map_nil]); first | done | rfl | (simp only [List.length_drop, List.length_take]; rfl)) ?_; (with_reducible refine (stereopsisref01_Word.calls k a1 a2 true _ A11.out).mono ?_); rintro e w' ⟨rfl, ⟨nd, rfl⟩⟩; refine ⟨_, rfl, ?_⟩) | (go_at_call 10; (with_reducible refine (stereopsisref01_Word.calls k a1 a3 false _ A13.out).mono ?_); rintro e w' ⟨rfl, ⟨nd, rfl⟩⟩))
          go_meet
          case rel => exact ⟨_, (true), (by first | rfl | (simp; done) | (simp [*]; done)), H', ⟨by first | omega | exact Nat.le_refl _⟩, ⟨by repeat (first | (with_reducible first | exact HB.out | apply below_alloc | apply pw_below_drewN | apply below_drew1) | exact HB.out)⟩⟩
    · replace c12 := Bool.eq_false_iff.mpr c12
      subst c12
      have H1 : (stereopsislaw01_WordDoes.j0 k a0 a1 a2 a3 t327 t328 t329 t330 t331 t332 true) = some true := by rw [if_neg (show ¬ (false = true) by decide)] at H; exact H
      clear H
      have H := H1
      clear H1
      as_aux_lemma =>
        have H' := Aside0.mk H
        clear H
        go_wp2_with (first | ((with_reducible refine gate_callee (f := 10) rfl ?_); refine goesL_ (some 36) rfl rfl Try.func10 (by kernel_rfl) rfl #[.int .i64 a1, .int .i64 a2] rfl (by (try simp only [List.map_toArray, List.map_cons, List.map_nil]); first | done | rfl | (simp only [List.length_drop, List.length_take]; rfl)) ?_; (with_reducible refine (stereopsisref01_Word.calls k a1 a2 false _ A11.out).mono ?_); rintro e w' ⟨rfl, ⟨nd, rfl⟩⟩; refine ⟨_, rfl, ?_⟩))
        go_meet
        case rel => exact ⟨_, (true), (by first | rfl | (simp; done) | (simp [*]; done)), H', ⟨by first | omega | exact Nat.le_refl _⟩, ⟨by repeat (first | (with_reducible first | exact HB.out | apply below_alloc | apply pw_below_drewN | apply below_drew1) | exact HB.out)⟩⟩
  case rest =>
    clear HC8
    try clear c1
    try clear c2
    try clear p2
    try clear c8
    try clear c10
    try clear c12
    try clear c14
    obtain ⟨kq, x48_7, rfl, HA, HJ7, HB⟩ := hcut
    cases kq with
    | zero => exact absurd HA.out (by simp [stereopsislaw01_WordDoes.j0])
    | succ kj7 =>
      have H := HA.out
      clear HA
      simp only [stereopsislaw01_WordDoes.j0] at H
      have HC16 := Aside0.mk H
      clear H
      go_upto_if 48 with (fail)
      go_cut [] (fun wc => ∃ (kq : Nat), Aside0 (stereopsislaw01_WordDoes.j1 kq a1 a2 t329 t330 t331 t332 = some true) ∧ Aside0 (kq ≤ kj7) ∧ Aside0 (Below w.heap.size w wc))
      case first =>
        have H := HC16.out
        clear HC16
        by_cases c17 : x48_7 = true
        · subst c17
          have H1 : (if t327 = 0 then (if t328 = 1 then (stereopsislaw01_WordDoes.j1 kj7 a1 a2 t329 t330 t331 t332) else (some false)) else (some false)) = some true := by rw [if_pos rfl] at H; exact H
          clear H
          have H := H1
          clear H1
          by_cases c18 : t327 = 0
          · rw [if_pos c18] at H
            have c18b0 : (t327 == 0) = true := beq_iff_eq.mpr c18
            have c18b1 : (t327 != 0) = false := bne_eq_false_iff_eq.mpr c18
            clear c18
            (first | rw [c18b0] | (simp only [i64_w, i32_w]; rw [c18b0]) | skip)
            by_cases c19 : t328 = 1
            · rw [if_pos c19] at H
              have c19b0 : (t328 == 1) = true := beq_iff_eq.mpr c19
              have c19b1 : (t328 != 1) = false := bne_eq_false_iff_eq.mpr c19
              clear c19
              as_aux_lemma =>
                have H' := Aside0.mk H
                clear H
                go_wp2
                go_meet
                case rel => exact ⟨_, H', ⟨by have := HJ7.out; first | omega | exact Nat.le_refl _⟩, ⟨by repeat (first | (with_reducible first | exact HB.out | apply below_alloc | apply pw_below_drewN | apply below_drew1) | exact HB.out)⟩⟩
            · rw [if_neg c19] at H
              have c19b0 : (t328 == 1) = false := beq_eq_false_iff_ne.mpr c19
              have c19b1 : (t328 != 1) = true := bne_iff_ne.mpr c19
              as_aux_lemma =>
                exact absurd H (by simp)
          · rw [if_neg c18] at H
            have c18b0 : (t327 == 0) = false := beq_eq_false_iff_ne.mpr c18
            have c18b1 : (t327 != 0) = true := bne_iff_ne.mpr c18
            (first | rw [c18b0] | (simp only [i64_w, i32_w]; rw [c18b0]) | skip)
            as_aux_lemma =>
              exact absurd H (by simp)
        · replace c17 := Bool.eq_false_iff.mpr c17
          subst c17
          have H1 : ((stereopsisref01_Do.f kj7 a0 a1 a2 a3).bind fun t336 => (if t327 = t336 then (if t328 = 0 then (stereopsislaw01_WordDoes.j1 kj7 a1 a2 t329 t330 t331 t332) else (some false)) else (some false))) = some true := by rw [if_neg (show ¬ (false = true) by decide)] at H; exact H
          clear H
          have H := H1
          clear H1
          replace H := Option.bind_eq_some_iff.mp H
          obtain ⟨t336, A200, H⟩ := H
          replace H : (if t327 = t336 then (if t328 = 0 then (stereopsislaw01_WordDoes.j1 kj7 a1 a2 t329 t330 t331 t332) else (some false)) else (some false)) = some true := H
          have A20 := Aside0.mk A200
          clear A200
          by_cases c21 : t327 = t336
          · rw [if_pos c21] at H
            have c21b0 : (t327 == t336) = true := beq_iff_eq.mpr c21
            have c21b1 : (t327 != t336) = false := bne_eq_false_iff_eq.mpr c21
            clear c21
            by_cases c22 : t328 = 0
            · rw [if_pos c22] at H
              have c22b0 : (t328 == 0) = true := beq_iff_eq.mpr c22
              have c22b1 : (t328 != 0) = false := bne_eq_false_iff_eq.mpr c22
              clear c22
              as_aux_lemma =>
                have H' := Aside0.mk H
                clear H
                go_wp2_with (first | ((with_reducible refine gate_callee (f := 24) rfl ?_); refine goesL_ (some 60) rfl rfl Try.func24 (by kernel_rfl) rfl #[.int .i64 a0, .int .i64 a1, .int .i64 a2, .int .i64 a3] rfl (by (try simp only [List.map_toArray, List.map_cons, List.map_nil]); first | done | rfl | (simp only [List.length_drop, List.length_take]; rfl)) ?_; (with_reducible refine (stereopsisref01_Do.calls kj7 a0 a1 a2 a3 t336 _ A20.out).mono ?_); rintro e w23 ⟨rfl, hb⟩; refine ⟨_, rfl, ?_⟩; have n0_ := Aside0.mk (below_step (by repeat (first | (with_reducible first | exact HB.out | apply below_alloc | apply pw_below_drewN | apply below_drew1) | exact HB.out)) hb); clear HB; have HB := n0_; clear n0_; (try clear hb); (try clear hb2); (try clear hk); (try clear hi)))
                go_meet
                case rel => exact ⟨_, H', ⟨by have := HJ7.out; first | omega | exact Nat.le_refl _⟩, ⟨by repeat (first | (with_reducible first | exact HB.out | apply below_alloc | apply pw_below_drewN | apply below_drew1) | exact HB.out)⟩⟩
            · rw [if_neg c22] at H
              have c22b0 : (t328 == 0) = false := beq_eq_false_iff_ne.mpr c22
              have c22b1 : (t328 != 0) = true := bne_iff_ne.mpr c22
              as_aux_lemma =>
                exact absurd H (by simp)
          · rw [if_neg c21] at H
            have c21b0 : (t327 == t336) = false := beq_eq_false_iff_ne.mpr c21
            have c21b1 : (t327 != t336) = true := bne_iff_ne.mpr c21
            as_aux_lemma =>
              exact absurd H (by simp)
      case rest =>
        clear HC16
        try clear c1
        try clear c2
        try clear p2
        try clear c8
        try clear c10
        try clear c12
        try clear c14
        try clear c17
        try clear c18
        try clear c18b0
        try clear c18b1
        try clear c19
        try clear c19b0
        try clear c19b1
        try clear c21
        try clear c21b0
        try clear c21b1
        try clear c22
        try clear c22b0
        try clear c22b1
        try clear p2
        obtain ⟨kq, HA, HJ15, HB⟩ := hcut
        cases kq with
        | zero => exact absurd HA.out (by simp [stereopsislaw01_WordDoes.j1])
        | succ kj15 =>
          have H := HA.out
          clear HA
          simp only [stereopsislaw01_WordDoes.j1] at H
          replace H := Option.bind_eq_some_iff.mp H
          obtain ⟨t337, A240, H⟩ := H
          replace H : (if t337 = true then ((stereopsisref01_Not.f kj15 a1 a2).bind fun t338 => (if t329 = t338 then (if t330 = 0 then (stereopsislaw01_WordDoes.j2 kj15 a1 t331 t332) else (some false)) else (some false))) else (if t329 = 0 then (if t330 = 1 then (stereopsislaw01_WordDoes.j2 kj15 a1 t331 t332) else (some false)) else (some false))) = some true := H
          have A24 := Aside0.mk A240
          clear A240
          have HC25 := Aside0.mk H
          clear H
          go_upto_if 69 with (first | ((with_reducible refine gate_callee (f := 10) rfl ?_); refine goesL_ (some 68) rfl rfl Try.func10 (by kernel_rfl) rfl #[.int .i64 a1, .int .i64 a2] rfl (by (try simp only [List.map_toArray, List.map_cons, List.map_nil]); first | done | rfl | (simp only [List.length_drop, List.length_take]; rfl)) ?_; (with_reducible refine (stereopsisref01_Word.calls kj15 a1 a2 t337 _ A24.out).mono ?_); rintro e w' ⟨rfl, ⟨nd, rfl⟩⟩; refine ⟨_, rfl, ?_⟩))
          (try simp only [Act.put, List.setIfInBounds_toArray, List.set_cons_zero, List.set_cons_succ])
          go_cut [] (fun wc => ∃ (kq : Nat), Aside0 (stereopsislaw01_WordDoes.j2 kq a1 t331 t332 = some true) ∧ Aside0 (kq ≤ kj15) ∧ Aside0 (Below w.heap.size w wc))
          case first =>
            have H := HC25.out
            clear HC25
            by_cases c26 : t337 = true
            · subst c26
              have H1 : ((stereopsisref01_Not.f kj15 a1 a2).bind fun t338 => (if t329 = t338 then (if t330 = 0 then (stereopsislaw01_WordDoes.j2 kj15 a1 t331 t332) else (some false)) else (some false))) = some true := by rw [if_pos rfl] at H; exact H
              clear H
              have H := H1
              clear H1
              replace H := Option.bind_eq_some_iff.mp H
              obtain ⟨t338, A270, H⟩ := H
              replace H : (if t329 = t338 then (if t330 = 0 then (stereopsislaw01_WordDoes.j2 kj15 a1 t331 t332) else (some false)) else (some false)) = some true := H
              have A27 := Aside0.mk A270
              clear A270
              by_cases c28 : t329 = t338
              · rw [if_pos c28] at H
                have c28b0 : (t329 == t338) = true := beq_iff_eq.mpr c28
                have c28b1 : (t329 != t338) = false := bne_eq_false_iff_eq.mpr c28
                clear c28
                (first | rw [c28b0] | (simp only [i64_w, i32_w]; rw [c28b0]) | skip)
                by_cases c29 : t330 = 0
                · rw [if_pos c29] at H
                  have c29b0 : (t330 == 0) = true := beq_iff_eq.mpr c29
                  have c29b1 : (t330 != 0) = false := bne_eq_false_iff_eq.mpr c29
                  clear c29
                  as_aux_lemma =>
                    have H' := Aside0.mk H
                    clear H
                    go_wp2_with (first | ((with_reducible refine gate_callee (f := 25) rfl ?_); refine goesL_ (some 79) rfl rfl Try.func25 (by kernel_rfl) rfl #[.int .i64 a1, .int .i64 a2] rfl (by (try simp only [List.map_toArray, List.map_cons, List.map_nil]); first | done | rfl | (simp only [List.length_drop, List.length_take]; rfl)) ?_; (with_reducible refine (stereopsisref01_Not.calls kj15 a1 a2 t338 _ A27.out).mono ?_); rintro e w' ⟨rfl, ⟨nd, rfl⟩⟩; refine ⟨_, rfl, ?_⟩))
                    go_meet
                    case rel => exact ⟨_, H', ⟨by have := HJ7.out; have := HJ15.out; first | omega | exact Nat.le_refl _⟩, ⟨by repeat (first | (with_reducible first | exact HB.out | apply below_alloc | apply pw_below_drewN | apply below_drew1) | exact HB.out)⟩⟩
                · rw [if_neg c29] at H
                  have c29b0 : (t330 == 0) = false := beq_eq_false_iff_ne.mpr c29
                  have c29b1 : (t330 != 0) = true := bne_iff_ne.mpr c29
                  as_aux_lemma =>
                    exact absurd H (by simp)
              · rw [if_neg c28] at H
                have c28b0 : (t329 == t338) = false := beq_eq_false_iff_ne.mpr c28
                have c28b1 : (t329 != t338) = true := bne_iff_ne.mpr c28
                (first | rw [c28b0] | (simp only [i64_w, i32_w]; rw [c28b0]) | skip)
                as_aux_lemma =>
                  exact absurd H (by simp)
            · replace c26 := Bool.eq_false_iff.mpr c26
              subst c26
              have H1 : (if t329 = 0 then (if t330 = 1 then (stereopsislaw01_WordDoes.j2 kj15 a1 t331 t332) else (some false)) else (some false)) = some true := by rw [if_neg (show ¬ (false = true) by decide)] at H; exact H
              clear H
              have H := H1
              clear H1
              by_cases c30 : t329 = 0
              · rw [if_pos c30] at H
                have c30b0 : (t329 == 0) = true := beq_iff_eq.mpr c30
                have c30b1 : (t329 != 0) = false := bne_eq_false_iff_eq.mpr c30
                clear c30
                by_cases c31 : t330 = 1
                · rw [if_pos c31] at H
                  have c31b0 : (t330 == 1) = true := beq_iff_eq.mpr c31
                  have c31b1 : (t330 != 1) = false := bne_eq_false_iff_eq.mpr c31
                  clear c31
                  as_aux_lemma =>
                    have H' := Aside0.mk H
                    clear H
                    go_wp2
                    go_meet
                    case rel => exact ⟨_, H', ⟨by have := HJ7.out; have := HJ15.out; first | omega | exact Nat.le_refl _⟩, ⟨by repeat (first | (with_reducible first | exact HB.out | apply below_alloc | apply pw_below_drewN | apply below_drew1) | exact HB.out)⟩⟩
                · rw [if_neg c31] at H
                  have c31b0 : (t330 == 1) = false := beq_eq_false_iff_ne.mpr c31
                  have c31b1 : (t330 != 1) = true := bne_iff_ne.mpr c31
                  as_aux_lemma =>
                    exact absurd H (by simp)
              · rw [if_neg c30] at H
                have c30b0 : (t329 == 0) = false := beq_eq_false_iff_ne.mpr c30
                have c30b1 : (t329 != 0) = true := bne_iff_ne.mpr c30
                as_aux_lemma =>
                  exact absurd H (by simp)
          case rest =>
            clear HC25
            try clear c1
            try clear c2
            try clear p2
            try clear c3
            try clear c8
            try clear c10
            try clear c12
            try clear c14
            try clear c17
            try clear c18
            try clear c18b0
            try clear c18b1
            try clear c19
            try clear c19b0
            try clear c19b1
            try clear c21
            try clear c21b0
            try clear c21b1
            try clear c22
            try clear c22b0
            try clear c22b1
            try clear c24
            try clear c25
            try clear c26
            try clear c28
            try clear c28b0
            try clear c28b1
            try clear c29
            try clear c29b0
            try clear c29b1
            try clear c30
            try clear c30b0
            try clear c30b1
            try clear c31
            try clear c31b0
            try clear c31b1
            try clear p2
            obtain ⟨kq, HA, HJ24, HB⟩ := hcut
            cases kq with
            | zero => exact absurd HA.out (by simp [stereopsislaw01_WordDoes.j2])
            | succ kj24 =>
              have H := HA.out
              clear HA
              simp only [stereopsislaw01_WordDoes.j2] at H
              replace H := Option.bind_eq_some_iff.mp H
              obtain ⟨t339, A320, H⟩ := H
              replace H : (if t339 = true then ((stereopsisref01_Top.f kj24 a1).bind fun t340 => (if t331 = t340 then (if t332 = 0 then ((stereopsislaw01_awake.f kj24).bind fun t341 => (some t341)) else (some false)) else (some false))) else (if t331 = 0 then (if t332 = 1 then ((stereopsislaw01_awake.f kj24).bind fun t342 => (some t342)) else (some false)) else (some false))) = some true := H
              have A32 := Aside0.mk A320
              clear A320
              by_cases c33 : t339 = true
              · subst c33
                have H1 : ((stereopsisref01_Top.f kj24 a1).bind fun t340 => (if t331 = t340 then (if t332 = 0 then ((stereopsislaw01_awake.f kj24).bind fun t341 => (some t341)) else (some false)) else (some false))) = some true := by rw [if_pos rfl] at H; exact H
                clear H
                have H := H1
                clear H1
                replace H := Option.bind_eq_some_iff.mp H
                obtain ⟨t340, A340, H⟩ := H
                replace H : (if t331 = t340 then (if t332 = 0 then ((stereopsislaw01_awake.f kj24).bind fun t341 => (some t341)) else (some false)) else (some false)) = some true := H
                have A34 := Aside0.mk A340
                clear A340
                by_cases c35 : t331 = t340
                · rw [if_pos c35] at H
                  have c35b0 : (t331 == t340) = true := beq_iff_eq.mpr c35
                  have c35b1 : (t331 != t340) = false := bne_eq_false_iff_eq.mpr c35
                  clear c35
                  by_cases c36 : t332 = 0
                  · rw [if_pos c36] at H
                    have c36b0 : (t332 == 0) = true := beq_iff_eq.mpr c36
                    have c36b1 : (t332 != 0) = false := bne_eq_false_iff_eq.mpr c36
                    clear c36
                    replace H := Option.bind_eq_some_iff.mp H
                    obtain ⟨t341, A370, H⟩ := H
                    replace H : (some t341) = some true := H
                    have A37 := Aside0.mk A370
                    clear A370
                    as_aux_lemma =>
                      have HX_ := Aside0.mk (Option.some.inj H)
                      clear H
                      go_wp2_with (first | ((with_reducible refine gate_callee (f := 26) rfl ?_); refine goesL_ (some 86) rfl rfl Try.func26 (by kernel_rfl) rfl #[.int .i64 a1] rfl (by (try simp only [List.map_toArray, List.map_cons, List.map_nil]); first | done | rfl | (simp only [List.length_drop, List.length_take]; rfl)) ?_; (with_reducible refine (stereopsisref01_Width.calls a1 true _ A32.out).mono ?_); rintro e w' ⟨rfl, ⟨nd, rfl⟩⟩; refine ⟨_, rfl, ?_⟩) | ((with_reducible refine gate_callee (f := 27) rfl ?_); refine goesL_ (some 99) rfl rfl Try.func27 (by kernel_rfl) rfl #[.int .i64 a1] rfl (by (try simp only [List.map_toArray, List.map_cons, List.map_nil]); first | done | rfl | (simp only [List.length_drop, List.length_take]; rfl)) ?_; (with_reducible refine (stereopsisref01_Top.calls kj24 a1 t340 _ A34.out).mono ?_); rintro e w' ⟨rfl, ⟨nd, rfl⟩⟩; refine ⟨_, rfl, ?_⟩) | (go_at_call 14; (with_reducible refine (stereopsislaw01_awake.calls kj24  t341 _ A37.out).mono ?_); rintro e w38 ⟨rfl, hb⟩; have n0_ := Aside0.mk (below_step (by repeat (first | (with_reducible first | exact HB.out | apply below_alloc | apply pw_below_drewN | apply below_drew1) | exact HB.out)) hb); clear HB; have HB := n0_; clear n0_; (try clear hb); (try clear hb2); (try clear hk); (try clear hi)))
                      go_ret
                      exact ⟨by first | (rw [HX_.out]; done) | (simp [HX_.out]; done) | rfl | (simp [errW_none, errW_some] <;> rfl) | (simp [*, errW_none, errW_some] <;> rfl), by repeat (first | (with_reducible first | exact HB.out | apply below_alloc | apply pw_below_drewN | apply below_drew1) | exact HB.out)⟩
                  · rw [if_neg c36] at H
                    have c36b0 : (t332 == 0) = false := beq_eq_false_iff_ne.mpr c36
                    have c36b1 : (t332 != 0) = true := bne_iff_ne.mpr c36
                    as_aux_lemma =>
                      exact absurd H (by simp)
                · rw [if_neg c35] at H
                  have c35b0 : (t331 == t340) = false := beq_eq_false_iff_ne.mpr c35
                  have c35b1 : (t331 != t340) = true := bne_iff_ne.mpr c35
                  as_aux_lemma =>
                    exact absurd H (by simp)
              · replace c33 := Bool.eq_false_iff.mpr c33
                subst c33
                have H1 : (if t331 = 0 then (if t332 = 1 then ((stereopsislaw01_awake.f kj24).bind fun t342 => (some t342)) else (some false)) else (some false)) = some true := by rw [if_neg (show ¬ (false = true) by decide)] at H; exact H
                clear H
                have H := H1
                clear H1
                by_cases c39 : t331 = 0
                · rw [if_pos c39] at H
                  have c39b0 : (t331 == 0) = true := beq_iff_eq.mpr c39
                  have c39b1 : (t331 != 0) = false := bne_eq_false_iff_eq.mpr c39
                  clear c39
                  by_cases c40 : t332 = 1
                  · rw [if_pos c40] at H
                    have c40b0 : (t332 == 1) = true := beq_iff_eq.mpr c40
                    have c40b1 : (t332 != 1) = false := bne_eq_false_iff_eq.mpr c40
                    clear c40
                    replace H := Option.bind_eq_some_iff.mp H
                    obtain ⟨t342, A410, H⟩ := H
                    replace H : (some t342) = some true := H
                    have A41 := Aside0.mk A410
                    clear A410
                    as_aux_lemma =>
                      have HX_ := Aside0.mk (Option.some.inj H)
                      clear H
                      go_wp2_with (first | ((with_reducible refine gate_callee (f := 26) rfl ?_); refine goesL_ (some 86) rfl rfl Try.func26 (by kernel_rfl) rfl #[.int .i64 a1] rfl (by (try simp only [List.map_toArray, List.map_cons, List.map_nil]); first | done | rfl | (simp only [List.length_drop, List.length_take]; rfl)) ?_; (with_reducible refine (stereopsisref01_Width.calls a1 false _ A32.out).mono ?_); rintro e w' ⟨rfl, ⟨nd, rfl⟩⟩; refine ⟨_, rfl, ?_⟩) | (go_at_call 14; (with_reducible refine (stereopsislaw01_awake.calls kj24  t342 _ A41.out).mono ?_); rintro e w42 ⟨rfl, hb⟩; have n0_ := Aside0.mk (below_step (by repeat (first | (with_reducible first | exact HB.out | apply below_alloc | apply pw_below_drewN | apply below_drew1) | exact HB.out)) hb); clear HB; have HB := n0_; clear n0_; (try clear hb); (try clear hb2); (try clear hk); (try clear hi)))
                      go_ret
                      exact ⟨by first | (rw [HX_.out]; done) | (simp [HX_.out]; done) | rfl | (simp [errW_none, errW_some] <;> rfl) | (simp [*, errW_none, errW_some] <;> rfl), by repeat (first | (with_reducible first | exact HB.out | apply below_alloc | apply pw_below_drewN | apply below_drew1) | exact HB.out)⟩
                  · rw [if_neg c40] at H
                    have c40b0 : (t332 == 1) = false := beq_eq_false_iff_ne.mpr c40
                    have c40b1 : (t332 != 1) = true := bne_iff_ne.mpr c40
                    as_aux_lemma =>
                      exact absurd H (by simp)
                · rw [if_neg c39] at H
                  have c39b0 : (t331 == 0) = false := beq_eq_false_iff_ne.mpr c39
                  have c39b1 : (t331 != 0) = true := bne_iff_ne.mpr c39
                  as_aux_lemma =>
                    exact absurd H (by simp)

/-- THE ONE PURE STATEMENT of stereopsislaw01_WordDoes: yours. -/
def stereopsislaw01_WordDoes.Pure : Prop := ∀ (a0 : Int) (a1 : Int) (a2 : Int) (a3 : Int), (Lit.int .i64 a0).wf = true → (Lit.int .i64 a1).wf = true → (Lit.int .i64 a2).wf = true → (Lit.int .i64 a3).wf = true → ∃ k, stereopsislaw01_WordDoes.f k a0 a1 a2 a3 = some true
theorem stereopsislaw01_WordDoes.walk (P : stereopsislaw01_WordDoes.Pure) (a0 : Int) (a1 : Int) (a2 : Int) (a3 : Int) (w : World) (w0 : (Lit.int .i64 a0).wf = true) (w1 : (Lit.int .i64 a1).wf = true) (w2 : (Lit.int .i64 a2).wf = true) (w3 : (Lit.int .i64 a3).wf = true) :
    Calls Try.prog 8 #[.int .i64 a0, .int .i64 a1, .int .i64 a2, .int .i64 a3] w fun e w' => e = .returned (.bool true) ∧ Below w.heap.size w w' := by
  obtain ⟨k, h⟩ := P a0 a1 a2 a3 w0 w1 w2 w3
  refine (stereopsislaw01_WordDoes.calls k a0 a1 a2 a3 w h).mono ?_
  rintro e w' ⟨rfl, hd⟩
  exact ⟨rfl, hd⟩

end Go.Proofs.Ytcbglmdnfipgnaa.P
