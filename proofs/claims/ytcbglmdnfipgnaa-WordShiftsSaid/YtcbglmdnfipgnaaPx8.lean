/- A part of the proof of a law of the seat: Go functions as plain Lean functions, and the proofs that the machine's calls do what these do, under no condition but the row's own. Laid by this session's wip/tools/hprint.py, over the kit's print and this session's own contracts. -/
import Derived.Test.YtcbglmdnfipgnaaPx0
import Derived.Test.YtcbglmdnfipgnaaPx1
import Derived.Test.YtcbglmdnfipgnaaPx2
import Derived.Test.YtcbglmdnfipgnaaPx3
import Derived.Test.YtcbglmdnfipgnaaPx5
import Derived.Test.YtcbglmdnfipgnaaPx7
namespace Go.Proofs.Ytcbglmdnfipgnaa.P
open Go.RowKit Go.Proofs.YtcbglmdnfipgnaaW.PrintWords Go.Proofs.YtcbglmdnfipgnaaW.PrintLast Go.Proofs.YtcbglmdnfipgnaaW.PrintMore
attribute [local go_sem] max2_int min2_int max_two min_two max_three min_three max_four min_four   -- for this text's walks alone
set_option linter.unusedVariables false
set_option linter.unusedSimpArgs false

/-! ### stereopsislaw01_WordShifts: function 5 -/
mutual
def stereopsislaw01_WordShifts.j0 : Nat → Int → Int → Int → Bool → Option (Bool)
  | 0, _, _, _, _ => none
  | k + 1, x0, x1, x2, x45 => if x45 = true then ((stereopsislaw01_awake.f k).bind fun t207 => (some t207)) else ((stereopsislaw01_do.f k 7 x0 x1 x2).bind fun bt208 => ((stereopsislaw01_do.f k 8 x0 x1 x2).bind fun bt210 => ((stereopsislaw01_do.f k 9 x0 x1 x2).bind fun bt212 => ((word_Not.f k x0 x1).bind fun bt214 => ((word_Bits.f k x0 x1).bind fun bt216 => ((word_Bits.f k x0 x2).bind fun bt220 => ((word_Bits.f k x0 bt208.1).bind fun bt224 => ((word_Bits.f k x0 bt210.1).bind fun bt228 => ((word_Bits.f k x0 bt212.1).bind fun bt232 => ((word_Bits.f k x0 bt214.1).bind fun bt236 => (if bt208.2 = true then (if bt210.2 = true then (if bt212.2 = true then (if bt214.2 = 0 then (if bt216.2 = 0 then (if bt220.2 = 0 then (if bt224.2 = 0 then (if bt228.2 = 0 then (if bt232.2 = 0 then (stereopsislaw01_WordShifts.j1 k x0 x1 x2 bt216.1 bt220.1 bt224.1 bt228.1 bt232.1 bt236.1 (bt236.2 != 0)) else (stereopsislaw01_WordShifts.j1 k x0 x1 x2 bt216.1 bt220.1 bt224.1 bt228.1 bt232.1 bt236.1 true)) else (stereopsislaw01_WordShifts.j1 k x0 x1 x2 bt216.1 bt220.1 bt224.1 bt228.1 bt232.1 bt236.1 true)) else (stereopsislaw01_WordShifts.j1 k x0 x1 x2 bt216.1 bt220.1 bt224.1 bt228.1 bt232.1 bt236.1 true)) else (stereopsislaw01_WordShifts.j1 k x0 x1 x2 bt216.1 bt220.1 bt224.1 bt228.1 bt232.1 bt236.1 true)) else (stereopsislaw01_WordShifts.j1 k x0 x1 x2 bt216.1 bt220.1 bt224.1 bt228.1 bt232.1 bt236.1 true)) else (stereopsislaw01_WordShifts.j1 k x0 x1 x2 bt216.1 bt220.1 bt224.1 bt228.1 bt232.1 bt236.1 true)) else (stereopsislaw01_WordShifts.j1 k x0 x1 x2 bt216.1 bt220.1 bt224.1 bt228.1 bt232.1 bt236.1 true)) else (stereopsislaw01_WordShifts.j1 k x0 x1 x2 bt216.1 bt220.1 bt224.1 bt228.1 bt232.1 bt236.1 true)) else (stereopsislaw01_WordShifts.j1 k x0 x1 x2 bt216.1 bt220.1 bt224.1 bt228.1 bt232.1 bt236.1 true))))))))))))
def stereopsislaw01_WordShifts.j1 : Nat → Int → Int → Int → List Int → List Int → List Int → List Int → List Int → List Int → Bool → Option (Bool)
  | 0, _, _, _, _, _, _, _, _, _, _ => none
  | k + 1, x0, x1, x2, x15, x17, x19, x21, x23, x25, x147 => if x147 = true then (some false) else (if (x15.length : Int) = x0 then (if (x17.length : Int) = x0 then (if (x19.length : Int) = x0 then (if (x21.length : Int) = x0 then (if (x23.length : Int) = x0 then (stereopsislaw01_WordShifts.j2 k x0 x1 x2 x15 x17 x19 x21 x23 x25 ((x25.length : Int) != x0)) else (stereopsislaw01_WordShifts.j2 k x0 x1 x2 x15 x17 x19 x21 x23 x25 true)) else (stereopsislaw01_WordShifts.j2 k x0 x1 x2 x15 x17 x19 x21 x23 x25 true)) else (stereopsislaw01_WordShifts.j2 k x0 x1 x2 x15 x17 x19 x21 x23 x25 true)) else (stereopsislaw01_WordShifts.j2 k x0 x1 x2 x15 x17 x19 x21 x23 x25 true)) else (stereopsislaw01_WordShifts.j2 k x0 x1 x2 x15 x17 x19 x21 x23 x25 true))
def stereopsislaw01_WordShifts.j2 : Nat → Int → Int → Int → List Int → List Int → List Int → List Int → List Int → List Int → Bool → Option (Bool)
  | 0, _, _, _, _, _, _, _, _, _, _ => none
  | k + 1, x0, x1, x2, x15, x17, x19, x21, x23, x25, x181 => if x181 = true then (some false) else (stereopsislaw01_WordShifts.l0 k x0 x1 x2 x15 x17 x19 x21 x23 x25 0)
def stereopsislaw01_WordShifts.l0 : Nat → Int → Int → Int → List Int → List Int → List Int → List Int → List Int → List Int → Int → Option (Bool)
  | 0, _, _, _, _, _, _, _, _, _, _ => none
  | k + 1, x0, x1, x2, x15, x17, x19, x21, x23, x25, x27 => if x27 < x0 then (if 0 ≤ x27 then (if x27 < (x19.length : Int) then (if x27 < (x15.length : Int) then (if x27 < (x17.length : Int) then (if (rd x19 x27) = (wrap64 ((rd x15 x27) * (rd x17 x27))) then (if x27 < (x21.length : Int) then (if (rd x21 x27) = (mx (rd x15 x27) (rd x17 x27)) then (if x27 < (x23.length : Int) then ((stereopsisref01_One.f ((rd x15 x27) != (rd x17 x27))).bind fun t249 => (if (rd x23 x27) = t249 then (if x27 < (x25.length : Int) then (if (rd x25 x27) = (wrap64 (1 - (rd x15 x27))) then (stereopsislaw01_WordShifts.l0 k x0 x1 x2 x15 x17 x19 x21 x23 x25 (wrap64 (x27 + 1))) else (some false)) else (none)) else (some false))) else (none)) else (some false)) else (none)) else (some false)) else (none)) else (none)) else (none)) else (none)) else (if x2 ≥ x0 then ((stereopsislaw01_awake.f k).bind fun t252 => (some t252)) else ((stereopsislaw01_do.f k 10 x0 x1 x2).bind fun bt253 => ((stereopsislaw01_do.f k 11 x0 x1 x2).bind fun bt255 => ((stereopsisref01_Pow.f k x2).bind fun t257 => ((stereopsislaw01_do.f k 4 x0 x1 t257).bind fun bt258 => ((stereopsisref01_Pow.f k x2).bind fun t260 => ((stereopsislaw01_do.f k 5 x0 x1 t260).bind fun bt261 => (if bt253.2 = true then (if bt255.2 = true then (if bt258.2 = true then (if bt261.2 = true then (if bt253.1 = bt258.1 then (if bt255.1 = bt261.1 then ((stereopsislaw01_awake.f k).bind fun t263 => (some t263)) else (some false)) else (some false)) else (some false)) else (some false)) else (some false)) else (some false)))))))))
end
def stereopsislaw01_WordShifts.f (k : Nat) (a0 : Int) (a1 : Int) (a2 : Int) : Option (Bool) := (stereopsisref01_Word.f k a0 a1).bind fun t205 => (if t205 = true then ((stereopsisref01_Word.f k a0 a2).bind fun t206 => (stereopsislaw01_WordShifts.j0 k a0 a1 a2 (!t206))) else (stereopsislaw01_WordShifts.j0 k a0 a1 a2 true))
theorem stereopsislaw01_WordShifts.mono_l : ∀ k, (∀ y0 y1 y2 y3, LeO (stereopsislaw01_WordShifts.j0 k y0 y1 y2 y3) (stereopsislaw01_WordShifts.j0 (k + 1) y0 y1 y2 y3)) ∧ (∀ y0 y1 y2 y3 y4 y5 y6 y7 y8 y9, LeO (stereopsislaw01_WordShifts.j1 k y0 y1 y2 y3 y4 y5 y6 y7 y8 y9) (stereopsislaw01_WordShifts.j1 (k + 1) y0 y1 y2 y3 y4 y5 y6 y7 y8 y9)) ∧ (∀ y0 y1 y2 y3 y4 y5 y6 y7 y8 y9, LeO (stereopsislaw01_WordShifts.j2 k y0 y1 y2 y3 y4 y5 y6 y7 y8 y9) (stereopsislaw01_WordShifts.j2 (k + 1) y0 y1 y2 y3 y4 y5 y6 y7 y8 y9)) ∧ (∀ y0 y1 y2 y3 y4 y5 y6 y7 y8 y9, LeO (stereopsislaw01_WordShifts.l0 k y0 y1 y2 y3 y4 y5 y6 y7 y8 y9) (stereopsislaw01_WordShifts.l0 (k + 1) y0 y1 y2 y3 y4 y5 y6 y7 y8 y9))
  | 0 => ⟨fun _ _ _ _ r h => by simp [stereopsislaw01_WordShifts.j0] at h, fun _ _ _ _ _ _ _ _ _ _ r h => by simp [stereopsislaw01_WordShifts.j1] at h, fun _ _ _ _ _ _ _ _ _ _ r h => by simp [stereopsislaw01_WordShifts.j2] at h, fun _ _ _ _ _ _ _ _ _ _ r h => by simp [stereopsislaw01_WordShifts.l0] at h⟩
  | k + 1 => by
    obtain ⟨ih0, ih1, ih2, ih3⟩ := stereopsislaw01_WordShifts.mono_l k
    refine ⟨?_, ?_, ?_, ?_⟩
    · intro y0 y1 y2 y3
      unfold stereopsislaw01_WordShifts.j0
      repeat' first
      | (with_reducible exact ih0 _ _ _ _)
      | (with_reducible exact ih1 _ _ _ _ _ _ _ _ _ _)
      | (with_reducible exact ih2 _ _ _ _ _ _ _ _ _ _)
      | (with_reducible exact ih3 _ _ _ _ _ _ _ _ _ _)
      | (with_reducible exact stereopsislaw01_awake.mono _)
      | (with_reducible exact stereopsislaw01_do.mono _ _ _ _ _)
      | (with_reducible exact stereopsisref01_Pow.mono _ _)
      | (with_reducible exact stereopsisref01_Word.mono _ _ _)
      | (with_reducible exact word_Bits.mono _ _ _)
      | (with_reducible exact word_Not.mono _ _ _)
      | (with_reducible exact LeO.refl _)
      | (with_reducible exact LeO.none _)
      | (with_reducible refine LeO.ite ?_ ?_)
      | (with_reducible refine LeO.bind ?_ (fun _ => ?_))
      | exact ih0 _ _ _ _
      | exact ih1 _ _ _ _ _ _ _ _ _ _
      | exact ih2 _ _ _ _ _ _ _ _ _ _
      | exact ih3 _ _ _ _ _ _ _ _ _ _
      | exact stereopsislaw01_awake.mono _
      | exact stereopsislaw01_do.mono _ _ _ _ _
      | exact stereopsisref01_Pow.mono _ _
      | exact stereopsisref01_Word.mono _ _ _
      | exact word_Bits.mono _ _ _
      | exact word_Not.mono _ _ _
      | exact LeO.none _
      | refine LeO.ite ?_ ?_
      | refine LeO.bind ?_ (fun _ => ?_)
    · intro y0 y1 y2 y3 y4 y5 y6 y7 y8 y9
      unfold stereopsislaw01_WordShifts.j1
      repeat' first
      | (with_reducible exact ih0 _ _ _ _)
      | (with_reducible exact ih1 _ _ _ _ _ _ _ _ _ _)
      | (with_reducible exact ih2 _ _ _ _ _ _ _ _ _ _)
      | (with_reducible exact ih3 _ _ _ _ _ _ _ _ _ _)
      | (with_reducible exact stereopsislaw01_awake.mono _)
      | (with_reducible exact stereopsislaw01_do.mono _ _ _ _ _)
      | (with_reducible exact stereopsisref01_Pow.mono _ _)
      | (with_reducible exact stereopsisref01_Word.mono _ _ _)
      | (with_reducible exact word_Bits.mono _ _ _)
      | (with_reducible exact word_Not.mono _ _ _)
      | (with_reducible exact LeO.refl _)
      | (with_reducible exact LeO.none _)
      | (with_reducible refine LeO.ite ?_ ?_)
      | (with_reducible refine LeO.bind ?_ (fun _ => ?_))
      | exact ih0 _ _ _ _
      | exact ih1 _ _ _ _ _ _ _ _ _ _
      | exact ih2 _ _ _ _ _ _ _ _ _ _
      | exact ih3 _ _ _ _ _ _ _ _ _ _
      | exact stereopsislaw01_awake.mono _
      | exact stereopsislaw01_do.mono _ _ _ _ _
      | exact stereopsisref01_Pow.mono _ _
      | exact stereopsisref01_Word.mono _ _ _
      | exact word_Bits.mono _ _ _
      | exact word_Not.mono _ _ _
      | exact LeO.none _
      | refine LeO.ite ?_ ?_
      | refine LeO.bind ?_ (fun _ => ?_)
    · intro y0 y1 y2 y3 y4 y5 y6 y7 y8 y9
      unfold stereopsislaw01_WordShifts.j2
      repeat' first
      | (with_reducible exact ih0 _ _ _ _)
      | (with_reducible exact ih1 _ _ _ _ _ _ _ _ _ _)
      | (with_reducible exact ih2 _ _ _ _ _ _ _ _ _ _)
      | (with_reducible exact ih3 _ _ _ _ _ _ _ _ _ _)
      | (with_reducible exact stereopsislaw01_awake.mono _)
      | (with_reducible exact stereopsislaw01_do.mono _ _ _ _ _)
      | (with_reducible exact stereopsisref01_Pow.mono _ _)
      | (with_reducible exact stereopsisref01_Word.mono _ _ _)
      | (with_reducible exact word_Bits.mono _ _ _)
      | (with_reducible exact word_Not.mono _ _ _)
      | (with_reducible exact LeO.refl _)
      | (with_reducible exact LeO.none _)
      | (with_reducible refine LeO.ite ?_ ?_)
      | (with_reducible refine LeO.bind ?_ (fun _ => ?_))
      | exact ih0 _ _ _ _
      | exact ih1 _ _ _ _ _ _ _ _ _ _
      | exact ih2 _ _ _ _ _ _ _ _ _ _
      | exact ih3 _ _ _ _ _ _ _ _ _ _
      | exact stereopsislaw01_awake.mono _
      | exact stereopsislaw01_do.mono _ _ _ _ _
      | exact stereopsisref01_Pow.mono _ _
      | exact stereopsisref01_Word.mono _ _ _
      | exact word_Bits.mono _ _ _
      | exact word_Not.mono _ _ _
      | exact LeO.none _
      | refine LeO.ite ?_ ?_
      | refine LeO.bind ?_ (fun _ => ?_)
    · intro y0 y1 y2 y3 y4 y5 y6 y7 y8 y9
      unfold stereopsislaw01_WordShifts.l0
      repeat' first
      | (with_reducible exact ih0 _ _ _ _)
      | (with_reducible exact ih1 _ _ _ _ _ _ _ _ _ _)
      | (with_reducible exact ih2 _ _ _ _ _ _ _ _ _ _)
      | (with_reducible exact ih3 _ _ _ _ _ _ _ _ _ _)
      | (with_reducible exact stereopsislaw01_awake.mono _)
      | (with_reducible exact stereopsislaw01_do.mono _ _ _ _ _)
      | (with_reducible exact stereopsisref01_Pow.mono _ _)
      | (with_reducible exact stereopsisref01_Word.mono _ _ _)
      | (with_reducible exact word_Bits.mono _ _ _)
      | (with_reducible exact word_Not.mono _ _ _)
      | (with_reducible exact LeO.refl _)
      | (with_reducible exact LeO.none _)
      | (with_reducible refine LeO.ite ?_ ?_)
      | (with_reducible refine LeO.bind ?_ (fun _ => ?_))
      | exact ih0 _ _ _ _
      | exact ih1 _ _ _ _ _ _ _ _ _ _
      | exact ih2 _ _ _ _ _ _ _ _ _ _
      | exact ih3 _ _ _ _ _ _ _ _ _ _
      | exact stereopsislaw01_awake.mono _
      | exact stereopsislaw01_do.mono _ _ _ _ _
      | exact stereopsisref01_Pow.mono _ _
      | exact stereopsisref01_Word.mono _ _ _
      | exact word_Bits.mono _ _ _
      | exact word_Not.mono _ _ _
      | exact LeO.none _
      | refine LeO.ite ?_ ?_
      | refine LeO.bind ?_ (fun _ => ?_)
theorem stereopsislaw01_WordShifts.mono : ∀ a0 a1 a2 k, LeO (stereopsislaw01_WordShifts.f k a0 a1 a2) (stereopsislaw01_WordShifts.f (k + 1) a0 a1 a2) := by
  intro a0 a1 a2 k
  obtain ⟨ih0, ih1, ih2, ih3⟩ := stereopsislaw01_WordShifts.mono_l k
  unfold stereopsislaw01_WordShifts.f
  repeat' first
      | (with_reducible exact ih0 _ _ _ _)
      | (with_reducible exact ih1 _ _ _ _ _ _ _ _ _ _)
      | (with_reducible exact ih2 _ _ _ _ _ _ _ _ _ _)
      | (with_reducible exact ih3 _ _ _ _ _ _ _ _ _ _)
      | (with_reducible exact stereopsislaw01_awake.mono _)
      | (with_reducible exact stereopsislaw01_do.mono _ _ _ _ _)
      | (with_reducible exact stereopsisref01_Pow.mono _ _)
      | (with_reducible exact stereopsisref01_Word.mono _ _ _)
      | (with_reducible exact word_Bits.mono _ _ _)
      | (with_reducible exact word_Not.mono _ _ _)
      | (with_reducible exact LeO.refl _)
      | (with_reducible exact LeO.none _)
      | (with_reducible refine LeO.ite ?_ ?_)
      | (with_reducible refine LeO.bind ?_ (fun _ => ?_))
      | exact ih0 _ _ _ _
      | exact ih1 _ _ _ _ _ _ _ _ _ _
      | exact ih2 _ _ _ _ _ _ _ _ _ _
      | exact ih3 _ _ _ _ _ _ _ _ _ _
      | exact stereopsislaw01_awake.mono _
      | exact stereopsislaw01_do.mono _ _ _ _ _
      | exact stereopsisref01_Pow.mono _ _
      | exact stereopsisref01_Word.mono _ _ _
      | exact word_Bits.mono _ _ _
      | exact word_Not.mono _ _ _
      | exact LeO.none _
      | refine LeO.ite ?_ ?_
      | refine LeO.bind ?_ (fun _ => ?_)
theorem stereopsislaw01_WordShifts.j1_not (k_ : Nat) (y0 : Int) (y1 : Int) (y2 : Int) (y3 : List Int) (y4 : List Int) (y5 : List Int) (y6 : List Int) (y7 : List Int) (y8 : List Int) : ¬ (stereopsislaw01_WordShifts.j1 k_ y0 y1 y2 y3 y4 y5 y6 y7 y8 true = some true) := by cases k_ <;> simp [stereopsislaw01_WordShifts.j1]
theorem stereopsislaw01_WordShifts.j2_not (k_ : Nat) (y0 : Int) (y1 : Int) (y2 : Int) (y3 : List Int) (y4 : List Int) (y5 : List Int) (y6 : List Int) (y7 : List Int) (y8 : List Int) : ¬ (stereopsislaw01_WordShifts.j2 k_ y0 y1 y2 y3 y4 y5 y6 y7 y8 true = some true) := by cases k_ <;> simp [stereopsislaw01_WordShifts.j2]
def stereopsislaw01_WordShifts.T20 : Bool × List (List Nat × List Nat) := (true, [([], []), ([], []), ([0, 1], [0, 1]), ([2], [2]), ([], []), ([], []), ([4, 5], [4, 5]), ([6], [6]), ([], []), ([], []), ([8, 9], [8, 9]), ([10], [10]), ([7, 11], [7, 11]), ([3, 12], [3, 12]), ([13], [13]), ([14], [14]), ([14], [14]), ([15, 16, 14], [14, 15, 16]), ([17, 14], [14, 17]), ([14], [14]), ([14], [14]), ([19, 20, 14], [14, 19, 20]), ([21, 14], [14, 21]), ([14], [14]), ([14], [14]), ([23, 24, 14], [14, 23, 24]), ([25, 14], [14, 25]), ([22, 26, 14], [14, 22, 26]), ([18, 27, 14], [14, 18, 27]), ([14, 28], [14, 28]), ([29, 14], [29]), ([30], [30]), ([30], [30]), ([31, 32, 30], [30, 31, 32]), ([33, 30], [30, 33]), ([30], [30]), ([30], [30]), ([35, 36, 30], [30, 35, 36]), ([37, 30], [30, 37]), ([30], [30]), ([30], [30]), ([39, 40, 30], [30, 39, 40]), ([41, 30], [30, 41]), ([38, 42, 30], [30, 38, 42]), ([43, 30, 30], [30, 43]), ([34, 44, 30], [30, 34, 44]), ([30, 45], [30, 45]), ([46, 44], [46]), ([47], [47]), ([47], [47]), ([48, 49, 47], [47, 48, 49]), ([50, 47], [47, 50]), ([47], [47]), ([47], [47]), ([52, 53, 47], [47, 52, 53]), ([54, 47], [47, 54]), ([55, 47], [47, 55]), ([51, 56, 47], [47, 51, 56]), ([47, 57], [47, 57])])
def stereopsislaw01_WordShifts.B20 : List Nat := [0, 0, 3, 7, 0, 0, 48, 112, 0, 0, 768, 1792, 4080, 8191, 16383, 32767, 32767, 131071, 262143, 32767, 32767, 1605631, 3702783, 32767, 32767, 25198591, 58753023, 133726207, 268435455, 536870911, 1073741823, 2147483647, 2147483647, 8589934591, 17179869183, 2147483647, 2147483647, 105226698751, 242665652223, 2147483647, 2147483647, 1651414925311, 3850438180863, 8763880767487, 17559973789695, 35184372088831, 70368744177663, 140737488355327, 281474976710655, 281474976710655, 1125899906842623, 2251799813685247, 281474976710655, 281474976710655, 13792273858822143, 31806672368304127, 67835469387268095, 144115188075855871, 288230376151711743]
theorem stereopsislaw01_WordShifts.tab20 : rtab .any (opsOf Try.f5 20) = stereopsislaw01_WordShifts.T20 := by kernel_rfl
theorem stereopsislaw01_WordShifts.bits20 : waitsOk stereopsislaw01_WordShifts.T20.2 stereopsislaw01_WordShifts.B20 = true := by kernel_rfl
set_option maxHeartbeats 8000000 in
set_option maxRecDepth 100000 in
theorem stereopsislaw01_WordShifts.calls (k : Nat) (a0 : Int) (a1 : Int) (a2 : Int) (w : World) (h : stereopsislaw01_WordShifts.f k a0 a1 a2 = some true) :
    Calls Try.prog 5 #[.int .i64 a0, .int .i64 a1, .int .i64 a2] w fun e w' => e = .returned (.bool true) ∧ Below w.heap.size w w' := by
  have HB := Aside0.mk (Below.refl w.heap.size w)
  have H : ((stereopsisref01_Word.f k a0 a1).bind fun t205 => (if t205 = true then ((stereopsisref01_Word.f k a0 a2).bind fun t206 => (stereopsislaw01_WordShifts.j0 k a0 a1 a2 (!t206))) else (stereopsislaw01_WordShifts.j0 k a0 a1 a2 true))) = some true := h
  clear h
  have HC4 := Aside0.mk H
  clear H
  go_enter Try.func5, Try.ntmps5
  go_upto_region 1 with (fail)
  go_cut [45] (fun v45 wc => ∃ (kq : Nat) (x45_3 : Bool), v45 = .bool x45_3 ∧ Aside0 (stereopsislaw01_WordShifts.j0 kq a0 a1 a2 x45_3 = some true) ∧ Aside0 (kq ≤ k) ∧ Aside0 (Below w.heap.size w wc))
  case first =>
    have H := HC4.out
    clear HC4
    replace H := Option.bind_eq_some_iff.mp H
    obtain ⟨t205, A50, H⟩ := H
    replace H : (if t205 = true then ((stereopsisref01_Word.f k a0 a2).bind fun t206 => (stereopsislaw01_WordShifts.j0 k a0 a1 a2 (!t206))) else (stereopsislaw01_WordShifts.j0 k a0 a1 a2 true)) = some true := H
    have A5 := Aside0.mk A50
    clear A50
    by_cases c6 : t205 = true
    · subst c6
      have H1 : ((stereopsisref01_Word.f k a0 a2).bind fun t206 => (stereopsislaw01_WordShifts.j0 k a0 a1 a2 (!t206))) = some true := by rw [if_pos rfl] at H; exact H
      clear H
      have H := H1
      clear H1
      replace H := Option.bind_eq_some_iff.mp H
      obtain ⟨t206, A70, H⟩ := H
      replace H : (stereopsislaw01_WordShifts.j0 k a0 a1 a2 (!t206)) = some true := H
      have A7 := Aside0.mk A70
      clear A70
      as_aux_lemma =>
        have H' := Aside0.mk H
        clear H
        go_wp2_with (first | ((with_reducible refine gate_callee (f := 10) rfl ?_); refine goesL_ (some 38) rfl rfl Try.func10 (by kernel_rfl) rfl #[.int .i64 a0, .int .i64 a1] rfl (by (try simp only [List.map_toArray, List.map_cons, List.map_nil]); first | done | rfl | (simp only [List.length_drop, List.length_take]; rfl)) ?_; (with_reducible refine (stereopsisref01_Word.calls k a0 a1 true _ A5.out).mono ?_); rintro e w' ⟨rfl, ⟨nd, rfl⟩⟩; refine ⟨_, rfl, ?_⟩) | (go_at_call 10; (with_reducible refine (stereopsisref01_Word.calls k a0 a2 t206 _ A7.out).mono ?_); rintro e w' ⟨rfl, ⟨nd, rfl⟩⟩))
        go_meet
        case rel => exact ⟨_, (!t206), (by first | rfl | (simp; done) | (simp [*]; done)), H', ⟨by first | omega | exact Nat.le_refl _⟩, ⟨by repeat (first | (with_reducible first | exact HB.out | apply below_alloc | apply pw_below_drewN | apply below_drew1) | exact HB.out)⟩⟩
    · replace c6 := Bool.eq_false_iff.mpr c6
      subst c6
      have H1 : (stereopsislaw01_WordShifts.j0 k a0 a1 a2 true) = some true := by rw [if_neg (show ¬ (false = true) by decide)] at H; exact H
      clear H
      have H := H1
      clear H1
      as_aux_lemma =>
        have H' := Aside0.mk H
        clear H
        go_wp2_with (first | ((with_reducible refine gate_callee (f := 10) rfl ?_); refine goesL_ (some 38) rfl rfl Try.func10 (by kernel_rfl) rfl #[.int .i64 a0, .int .i64 a1] rfl (by (try simp only [List.map_toArray, List.map_cons, List.map_nil]); first | done | rfl | (simp only [List.length_drop, List.length_take]; rfl)) ?_; (with_reducible refine (stereopsisref01_Word.calls k a0 a1 false _ A5.out).mono ?_); rintro e w' ⟨rfl, ⟨nd, rfl⟩⟩; refine ⟨_, rfl, ?_⟩))
        go_meet
        case rel => exact ⟨_, (true), (by first | rfl | (simp; done) | (simp [*]; done)), H', ⟨by first | omega | exact Nat.le_refl _⟩, ⟨by repeat (first | (with_reducible first | exact HB.out | apply below_alloc | apply pw_below_drewN | apply below_drew1) | exact HB.out)⟩⟩
  case rest =>
    clear HC4
    try clear c1
    try clear p2
    try clear c5
    try clear c6
    obtain ⟨kq, x45_3, rfl, HA, HJ3, HB⟩ := hcut
    cases kq with
    | zero => exact absurd HA.out (by simp [stereopsislaw01_WordShifts.j0])
    | succ kj3 =>
      have H := HA.out
      clear HA
      simp only [stereopsislaw01_WordShifts.j0] at H
      by_cases c8 : x45_3 = true
      · subst c8
        have H1 : ((stereopsislaw01_awake.f kj3).bind fun t207 => (some t207)) = some true := by rw [if_pos rfl] at H; exact H
        clear H
        have H := H1
        clear H1
        replace H := Option.bind_eq_some_iff.mp H
        obtain ⟨t207, A90, H⟩ := H
        replace H : (some t207) = some true := H
        have A9 := Aside0.mk A90
        clear A90
        as_aux_lemma =>
          have HX_ := Aside0.mk (Option.some.inj H)
          clear H
          go_wp2_with (first | ((with_reducible refine gate_callee (f := 14) rfl ?_); refine goesL_ (some 46) rfl rfl Try.func14 (by kernel_rfl) rfl #[] rfl (by (try simp only [List.map_toArray, List.map_cons, List.map_nil]); first | done | rfl | (simp only [List.length_drop, List.length_take]; rfl)) ?_; (with_reducible refine (stereopsislaw01_awake.calls kj3  t207 _ A9.out).mono ?_); rintro e w10 ⟨rfl, hb⟩; refine ⟨_, rfl, ?_⟩; have n0_ := Aside0.mk (below_step (by repeat (first | (with_reducible first | exact HB.out | apply below_alloc | apply pw_below_drewN | apply below_drew1) | exact HB.out)) hb); clear HB; have HB := n0_; clear n0_; (try clear hb); (try clear hb2); (try clear hk); (try clear hi)))
          go_ret
          exact ⟨by first | (rw [HX_.out]; done) | (simp [HX_.out]; done) | rfl | (simp [errW_none, errW_some] <;> rfl) | (simp [*, errW_none, errW_some] <;> rfl), by repeat (first | (with_reducible first | exact HB.out | apply below_alloc | apply pw_below_drewN | apply below_drew1) | exact HB.out)⟩
      · replace c8 := Bool.eq_false_iff.mpr c8
        subst c8
        have H1 : ((stereopsislaw01_do.f kj3 7 a0 a1 a2).bind fun bt208 => ((stereopsislaw01_do.f kj3 8 a0 a1 a2).bind fun bt210 => ((stereopsislaw01_do.f kj3 9 a0 a1 a2).bind fun bt212 => ((word_Not.f kj3 a0 a1).bind fun bt214 => ((word_Bits.f kj3 a0 a1).bind fun bt216 => ((word_Bits.f kj3 a0 a2).bind fun bt220 => ((word_Bits.f kj3 a0 bt208.1).bind fun bt224 => ((word_Bits.f kj3 a0 bt210.1).bind fun bt228 => ((word_Bits.f kj3 a0 bt212.1).bind fun bt232 => ((word_Bits.f kj3 a0 bt214.1).bind fun bt236 => (if bt208.2 = true then (if bt210.2 = true then (if bt212.2 = true then (if bt214.2 = 0 then (if bt216.2 = 0 then (if bt220.2 = 0 then (if bt224.2 = 0 then (if bt228.2 = 0 then (if bt232.2 = 0 then (stereopsislaw01_WordShifts.j1 kj3 a0 a1 a2 bt216.1 bt220.1 bt224.1 bt228.1 bt232.1 bt236.1 (bt236.2 != 0)) else (stereopsislaw01_WordShifts.j1 kj3 a0 a1 a2 bt216.1 bt220.1 bt224.1 bt228.1 bt232.1 bt236.1 true)) else (stereopsislaw01_WordShifts.j1 kj3 a0 a1 a2 bt216.1 bt220.1 bt224.1 bt228.1 bt232.1 bt236.1 true)) else (stereopsislaw01_WordShifts.j1 kj3 a0 a1 a2 bt216.1 bt220.1 bt224.1 bt228.1 bt232.1 bt236.1 true)) else (stereopsislaw01_WordShifts.j1 kj3 a0 a1 a2 bt216.1 bt220.1 bt224.1 bt228.1 bt232.1 bt236.1 true)) else (stereopsislaw01_WordShifts.j1 kj3 a0 a1 a2 bt216.1 bt220.1 bt224.1 bt228.1 bt232.1 bt236.1 true)) else (stereopsislaw01_WordShifts.j1 kj3 a0 a1 a2 bt216.1 bt220.1 bt224.1 bt228.1 bt232.1 bt236.1 true)) else (stereopsislaw01_WordShifts.j1 kj3 a0 a1 a2 bt216.1 bt220.1 bt224.1 bt228.1 bt232.1 bt236.1 true)) else (stereopsislaw01_WordShifts.j1 kj3 a0 a1 a2 bt216.1 bt220.1 bt224.1 bt228.1 bt232.1 bt236.1 true)) else (stereopsislaw01_WordShifts.j1 kj3 a0 a1 a2 bt216.1 bt220.1 bt224.1 bt228.1 bt232.1 bt236.1 true)))))))))))) = some true := by rw [if_neg (show ¬ (false = true) by decide)] at H; exact H
        clear H
        have H := H1
        clear H1
        replace H := Option.bind_eq_some_iff.mp H
        obtain ⟨⟨t208, t209⟩, A110, H⟩ := H
        replace H : ((stereopsislaw01_do.f kj3 8 a0 a1 a2).bind fun bt210 => ((stereopsislaw01_do.f kj3 9 a0 a1 a2).bind fun bt212 => ((word_Not.f kj3 a0 a1).bind fun bt214 => ((word_Bits.f kj3 a0 a1).bind fun bt216 => ((word_Bits.f kj3 a0 a2).bind fun bt220 => ((word_Bits.f kj3 a0 t208).bind fun bt224 => ((word_Bits.f kj3 a0 bt210.1).bind fun bt228 => ((word_Bits.f kj3 a0 bt212.1).bind fun bt232 => ((word_Bits.f kj3 a0 bt214.1).bind fun bt236 => (if t209 = true then (if bt210.2 = true then (if bt212.2 = true then (if bt214.2 = 0 then (if bt216.2 = 0 then (if bt220.2 = 0 then (if bt224.2 = 0 then (if bt228.2 = 0 then (if bt232.2 = 0 then (stereopsislaw01_WordShifts.j1 kj3 a0 a1 a2 bt216.1 bt220.1 bt224.1 bt228.1 bt232.1 bt236.1 (bt236.2 != 0)) else (stereopsislaw01_WordShifts.j1 kj3 a0 a1 a2 bt216.1 bt220.1 bt224.1 bt228.1 bt232.1 bt236.1 true)) else (stereopsislaw01_WordShifts.j1 kj3 a0 a1 a2 bt216.1 bt220.1 bt224.1 bt228.1 bt232.1 bt236.1 true)) else (stereopsislaw01_WordShifts.j1 kj3 a0 a1 a2 bt216.1 bt220.1 bt224.1 bt228.1 bt232.1 bt236.1 true)) else (stereopsislaw01_WordShifts.j1 kj3 a0 a1 a2 bt216.1 bt220.1 bt224.1 bt228.1 bt232.1 bt236.1 true)) else (stereopsislaw01_WordShifts.j1 kj3 a0 a1 a2 bt216.1 bt220.1 bt224.1 bt228.1 bt232.1 bt236.1 true)) else (stereopsislaw01_WordShifts.j1 kj3 a0 a1 a2 bt216.1 bt220.1 bt224.1 bt228.1 bt232.1 bt236.1 true)) else (stereopsislaw01_WordShifts.j1 kj3 a0 a1 a2 bt216.1 bt220.1 bt224.1 bt228.1 bt232.1 bt236.1 true)) else (stereopsislaw01_WordShifts.j1 kj3 a0 a1 a2 bt216.1 bt220.1 bt224.1 bt228.1 bt232.1 bt236.1 true)) else (stereopsislaw01_WordShifts.j1 kj3 a0 a1 a2 bt216.1 bt220.1 bt224.1 bt228.1 bt232.1 bt236.1 true))))))))))) = some true := H
        have A11 := Aside0.mk A110
        clear A110
        replace H := Option.bind_eq_some_iff.mp H
        obtain ⟨⟨t210, t211⟩, A120, H⟩ := H
        replace H : ((stereopsislaw01_do.f kj3 9 a0 a1 a2).bind fun bt212 => ((word_Not.f kj3 a0 a1).bind fun bt214 => ((word_Bits.f kj3 a0 a1).bind fun bt216 => ((word_Bits.f kj3 a0 a2).bind fun bt220 => ((word_Bits.f kj3 a0 t208).bind fun bt224 => ((word_Bits.f kj3 a0 t210).bind fun bt228 => ((word_Bits.f kj3 a0 bt212.1).bind fun bt232 => ((word_Bits.f kj3 a0 bt214.1).bind fun bt236 => (if t209 = true then (if t211 = true then (if bt212.2 = true then (if bt214.2 = 0 then (if bt216.2 = 0 then (if bt220.2 = 0 then (if bt224.2 = 0 then (if bt228.2 = 0 then (if bt232.2 = 0 then (stereopsislaw01_WordShifts.j1 kj3 a0 a1 a2 bt216.1 bt220.1 bt224.1 bt228.1 bt232.1 bt236.1 (bt236.2 != 0)) else (stereopsislaw01_WordShifts.j1 kj3 a0 a1 a2 bt216.1 bt220.1 bt224.1 bt228.1 bt232.1 bt236.1 true)) else (stereopsislaw01_WordShifts.j1 kj3 a0 a1 a2 bt216.1 bt220.1 bt224.1 bt228.1 bt232.1 bt236.1 true)) else (stereopsislaw01_WordShifts.j1 kj3 a0 a1 a2 bt216.1 bt220.1 bt224.1 bt228.1 bt232.1 bt236.1 true)) else (stereopsislaw01_WordShifts.j1 kj3 a0 a1 a2 bt216.1 bt220.1 bt224.1 bt228.1 bt232.1 bt236.1 true)) else (stereopsislaw01_WordShifts.j1 kj3 a0 a1 a2 bt216.1 bt220.1 bt224.1 bt228.1 bt232.1 bt236.1 true)) else (stereopsislaw01_WordShifts.j1 kj3 a0 a1 a2 bt216.1 bt220.1 bt224.1 bt228.1 bt232.1 bt236.1 true)) else (stereopsislaw01_WordShifts.j1 kj3 a0 a1 a2 bt216.1 bt220.1 bt224.1 bt228.1 bt232.1 bt236.1 true)) else (stereopsislaw01_WordShifts.j1 kj3 a0 a1 a2 bt216.1 bt220.1 bt224.1 bt228.1 bt232.1 bt236.1 true)) else (stereopsislaw01_WordShifts.j1 kj3 a0 a1 a2 bt216.1 bt220.1 bt224.1 bt228.1 bt232.1 bt236.1 true)))))))))) = some true := H
        have A12 := Aside0.mk A120
        clear A120
        replace H := Option.bind_eq_some_iff.mp H
        obtain ⟨⟨t212, t213⟩, A130, H⟩ := H
        replace H : ((word_Not.f kj3 a0 a1).bind fun bt214 => ((word_Bits.f kj3 a0 a1).bind fun bt216 => ((word_Bits.f kj3 a0 a2).bind fun bt220 => ((word_Bits.f kj3 a0 t208).bind fun bt224 => ((word_Bits.f kj3 a0 t210).bind fun bt228 => ((word_Bits.f kj3 a0 t212).bind fun bt232 => ((word_Bits.f kj3 a0 bt214.1).bind fun bt236 => (if t209 = true then (if t211 = true then (if t213 = true then (if bt214.2 = 0 then (if bt216.2 = 0 then (if bt220.2 = 0 then (if bt224.2 = 0 then (if bt228.2 = 0 then (if bt232.2 = 0 then (stereopsislaw01_WordShifts.j1 kj3 a0 a1 a2 bt216.1 bt220.1 bt224.1 bt228.1 bt232.1 bt236.1 (bt236.2 != 0)) else (stereopsislaw01_WordShifts.j1 kj3 a0 a1 a2 bt216.1 bt220.1 bt224.1 bt228.1 bt232.1 bt236.1 true)) else (stereopsislaw01_WordShifts.j1 kj3 a0 a1 a2 bt216.1 bt220.1 bt224.1 bt228.1 bt232.1 bt236.1 true)) else (stereopsislaw01_WordShifts.j1 kj3 a0 a1 a2 bt216.1 bt220.1 bt224.1 bt228.1 bt232.1 bt236.1 true)) else (stereopsislaw01_WordShifts.j1 kj3 a0 a1 a2 bt216.1 bt220.1 bt224.1 bt228.1 bt232.1 bt236.1 true)) else (stereopsislaw01_WordShifts.j1 kj3 a0 a1 a2 bt216.1 bt220.1 bt224.1 bt228.1 bt232.1 bt236.1 true)) else (stereopsislaw01_WordShifts.j1 kj3 a0 a1 a2 bt216.1 bt220.1 bt224.1 bt228.1 bt232.1 bt236.1 true)) else (stereopsislaw01_WordShifts.j1 kj3 a0 a1 a2 bt216.1 bt220.1 bt224.1 bt228.1 bt232.1 bt236.1 true)) else (stereopsislaw01_WordShifts.j1 kj3 a0 a1 a2 bt216.1 bt220.1 bt224.1 bt228.1 bt232.1 bt236.1 true)) else (stereopsislaw01_WordShifts.j1 kj3 a0 a1 a2 bt216.1 bt220.1 bt224.1 bt228.1 bt232.1 bt236.1 true))))))))) = some true := H
        have A13 := Aside0.mk A130
        clear A130
        replace H := Option.bind_eq_some_iff.mp H
        obtain ⟨⟨t214, t215⟩, A140, H⟩ := H
        replace H : ((word_Bits.f kj3 a0 a1).bind fun bt216 => ((word_Bits.f kj3 a0 a2).bind fun bt220 => ((word_Bits.f kj3 a0 t208).bind fun bt224 => ((word_Bits.f kj3 a0 t210).bind fun bt228 => ((word_Bits.f kj3 a0 t212).bind fun bt232 => ((word_Bits.f kj3 a0 t214).bind fun bt236 => (if t209 = true then (if t211 = true then (if t213 = true then (if t215 = 0 then (if bt216.2 = 0 then (if bt220.2 = 0 then (if bt224.2 = 0 then (if bt228.2 = 0 then (if bt232.2 = 0 then (stereopsislaw01_WordShifts.j1 kj3 a0 a1 a2 bt216.1 bt220.1 bt224.1 bt228.1 bt232.1 bt236.1 (bt236.2 != 0)) else (stereopsislaw01_WordShifts.j1 kj3 a0 a1 a2 bt216.1 bt220.1 bt224.1 bt228.1 bt232.1 bt236.1 true)) else (stereopsislaw01_WordShifts.j1 kj3 a0 a1 a2 bt216.1 bt220.1 bt224.1 bt228.1 bt232.1 bt236.1 true)) else (stereopsislaw01_WordShifts.j1 kj3 a0 a1 a2 bt216.1 bt220.1 bt224.1 bt228.1 bt232.1 bt236.1 true)) else (stereopsislaw01_WordShifts.j1 kj3 a0 a1 a2 bt216.1 bt220.1 bt224.1 bt228.1 bt232.1 bt236.1 true)) else (stereopsislaw01_WordShifts.j1 kj3 a0 a1 a2 bt216.1 bt220.1 bt224.1 bt228.1 bt232.1 bt236.1 true)) else (stereopsislaw01_WordShifts.j1 kj3 a0 a1 a2 bt216.1 bt220.1 bt224.1 bt228.1 bt232.1 bt236.1 true)) else (stereopsislaw01_WordShifts.j1 kj3 a0 a1 a2 bt216.1 bt220.1 bt224.1 bt228.1 bt232.1 bt236.1 true)) else (stereopsislaw01_WordShifts.j1 kj3 a0 a1 a2 bt216.1 bt220.1 bt224.1 bt228.1 bt232.1 bt236.1 true)) else (stereopsislaw01_WordShifts.j1 kj3 a0 a1 a2 bt216.1 bt220.1 bt224.1 bt228.1 bt232.1 bt236.1 true)))))))) = some true := H
        have A14 := Aside0.mk A140
        clear A140
        replace H := Option.bind_eq_some_iff.mp H
        obtain ⟨⟨t216, t217⟩, A150, H⟩ := H
        replace H : ((word_Bits.f kj3 a0 a2).bind fun bt220 => ((word_Bits.f kj3 a0 t208).bind fun bt224 => ((word_Bits.f kj3 a0 t210).bind fun bt228 => ((word_Bits.f kj3 a0 t212).bind fun bt232 => ((word_Bits.f kj3 a0 t214).bind fun bt236 => (if t209 = true then (if t211 = true then (if t213 = true then (if t215 = 0 then (if t217 = 0 then (if bt220.2 = 0 then (if bt224.2 = 0 then (if bt228.2 = 0 then (if bt232.2 = 0 then (stereopsislaw01_WordShifts.j1 kj3 a0 a1 a2 t216 bt220.1 bt224.1 bt228.1 bt232.1 bt236.1 (bt236.2 != 0)) else (stereopsislaw01_WordShifts.j1 kj3 a0 a1 a2 t216 bt220.1 bt224.1 bt228.1 bt232.1 bt236.1 true)) else (stereopsislaw01_WordShifts.j1 kj3 a0 a1 a2 t216 bt220.1 bt224.1 bt228.1 bt232.1 bt236.1 true)) else (stereopsislaw01_WordShifts.j1 kj3 a0 a1 a2 t216 bt220.1 bt224.1 bt228.1 bt232.1 bt236.1 true)) else (stereopsislaw01_WordShifts.j1 kj3 a0 a1 a2 t216 bt220.1 bt224.1 bt228.1 bt232.1 bt236.1 true)) else (stereopsislaw01_WordShifts.j1 kj3 a0 a1 a2 t216 bt220.1 bt224.1 bt228.1 bt232.1 bt236.1 true)) else (stereopsislaw01_WordShifts.j1 kj3 a0 a1 a2 t216 bt220.1 bt224.1 bt228.1 bt232.1 bt236.1 true)) else (stereopsislaw01_WordShifts.j1 kj3 a0 a1 a2 t216 bt220.1 bt224.1 bt228.1 bt232.1 bt236.1 true)) else (stereopsislaw01_WordShifts.j1 kj3 a0 a1 a2 t216 bt220.1 bt224.1 bt228.1 bt232.1 bt236.1 true)) else (stereopsislaw01_WordShifts.j1 kj3 a0 a1 a2 t216 bt220.1 bt224.1 bt228.1 bt232.1 bt236.1 true))))))) = some true := H
        have A15 := Aside0.mk A150
        clear A150
        replace H := Option.bind_eq_some_iff.mp H
        obtain ⟨⟨t220, t221⟩, A160, H⟩ := H
        replace H : ((word_Bits.f kj3 a0 t208).bind fun bt224 => ((word_Bits.f kj3 a0 t210).bind fun bt228 => ((word_Bits.f kj3 a0 t212).bind fun bt232 => ((word_Bits.f kj3 a0 t214).bind fun bt236 => (if t209 = true then (if t211 = true then (if t213 = true then (if t215 = 0 then (if t217 = 0 then (if t221 = 0 then (if bt224.2 = 0 then (if bt228.2 = 0 then (if bt232.2 = 0 then (stereopsislaw01_WordShifts.j1 kj3 a0 a1 a2 t216 t220 bt224.1 bt228.1 bt232.1 bt236.1 (bt236.2 != 0)) else (stereopsislaw01_WordShifts.j1 kj3 a0 a1 a2 t216 t220 bt224.1 bt228.1 bt232.1 bt236.1 true)) else (stereopsislaw01_WordShifts.j1 kj3 a0 a1 a2 t216 t220 bt224.1 bt228.1 bt232.1 bt236.1 true)) else (stereopsislaw01_WordShifts.j1 kj3 a0 a1 a2 t216 t220 bt224.1 bt228.1 bt232.1 bt236.1 true)) else (stereopsislaw01_WordShifts.j1 kj3 a0 a1 a2 t216 t220 bt224.1 bt228.1 bt232.1 bt236.1 true)) else (stereopsislaw01_WordShifts.j1 kj3 a0 a1 a2 t216 t220 bt224.1 bt228.1 bt232.1 bt236.1 true)) else (stereopsislaw01_WordShifts.j1 kj3 a0 a1 a2 t216 t220 bt224.1 bt228.1 bt232.1 bt236.1 true)) else (stereopsislaw01_WordShifts.j1 kj3 a0 a1 a2 t216 t220 bt224.1 bt228.1 bt232.1 bt236.1 true)) else (stereopsislaw01_WordShifts.j1 kj3 a0 a1 a2 t216 t220 bt224.1 bt228.1 bt232.1 bt236.1 true)) else (stereopsislaw01_WordShifts.j1 kj3 a0 a1 a2 t216 t220 bt224.1 bt228.1 bt232.1 bt236.1 true)))))) = some true := H
        have A16 := Aside0.mk A160
        clear A160
        replace H := Option.bind_eq_some_iff.mp H
        obtain ⟨⟨t224, t225⟩, A170, H⟩ := H
        replace H : ((word_Bits.f kj3 a0 t210).bind fun bt228 => ((word_Bits.f kj3 a0 t212).bind fun bt232 => ((word_Bits.f kj3 a0 t214).bind fun bt236 => (if t209 = true then (if t211 = true then (if t213 = true then (if t215 = 0 then (if t217 = 0 then (if t221 = 0 then (if t225 = 0 then (if bt228.2 = 0 then (if bt232.2 = 0 then (stereopsislaw01_WordShifts.j1 kj3 a0 a1 a2 t216 t220 t224 bt228.1 bt232.1 bt236.1 (bt236.2 != 0)) else (stereopsislaw01_WordShifts.j1 kj3 a0 a1 a2 t216 t220 t224 bt228.1 bt232.1 bt236.1 true)) else (stereopsislaw01_WordShifts.j1 kj3 a0 a1 a2 t216 t220 t224 bt228.1 bt232.1 bt236.1 true)) else (stereopsislaw01_WordShifts.j1 kj3 a0 a1 a2 t216 t220 t224 bt228.1 bt232.1 bt236.1 true)) else (stereopsislaw01_WordShifts.j1 kj3 a0 a1 a2 t216 t220 t224 bt228.1 bt232.1 bt236.1 true)) else (stereopsislaw01_WordShifts.j1 kj3 a0 a1 a2 t216 t220 t224 bt228.1 bt232.1 bt236.1 true)) else (stereopsislaw01_WordShifts.j1 kj3 a0 a1 a2 t216 t220 t224 bt228.1 bt232.1 bt236.1 true)) else (stereopsislaw01_WordShifts.j1 kj3 a0 a1 a2 t216 t220 t224 bt228.1 bt232.1 bt236.1 true)) else (stereopsislaw01_WordShifts.j1 kj3 a0 a1 a2 t216 t220 t224 bt228.1 bt232.1 bt236.1 true)) else (stereopsislaw01_WordShifts.j1 kj3 a0 a1 a2 t216 t220 t224 bt228.1 bt232.1 bt236.1 true))))) = some true := H
        have A17 := Aside0.mk A170
        clear A170
        replace H := Option.bind_eq_some_iff.mp H
        obtain ⟨⟨t228, t229⟩, A180, H⟩ := H
        replace H : ((word_Bits.f kj3 a0 t212).bind fun bt232 => ((word_Bits.f kj3 a0 t214).bind fun bt236 => (if t209 = true then (if t211 = true then (if t213 = true then (if t215 = 0 then (if t217 = 0 then (if t221 = 0 then (if t225 = 0 then (if t229 = 0 then (if bt232.2 = 0 then (stereopsislaw01_WordShifts.j1 kj3 a0 a1 a2 t216 t220 t224 t228 bt232.1 bt236.1 (bt236.2 != 0)) else (stereopsislaw01_WordShifts.j1 kj3 a0 a1 a2 t216 t220 t224 t228 bt232.1 bt236.1 true)) else (stereopsislaw01_WordShifts.j1 kj3 a0 a1 a2 t216 t220 t224 t228 bt232.1 bt236.1 true)) else (stereopsislaw01_WordShifts.j1 kj3 a0 a1 a2 t216 t220 t224 t228 bt232.1 bt236.1 true)) else (stereopsislaw01_WordShifts.j1 kj3 a0 a1 a2 t216 t220 t224 t228 bt232.1 bt236.1 true)) else (stereopsislaw01_WordShifts.j1 kj3 a0 a1 a2 t216 t220 t224 t228 bt232.1 bt236.1 true)) else (stereopsislaw01_WordShifts.j1 kj3 a0 a1 a2 t216 t220 t224 t228 bt232.1 bt236.1 true)) else (stereopsislaw01_WordShifts.j1 kj3 a0 a1 a2 t216 t220 t224 t228 bt232.1 bt236.1 true)) else (stereopsislaw01_WordShifts.j1 kj3 a0 a1 a2 t216 t220 t224 t228 bt232.1 bt236.1 true)) else (stereopsislaw01_WordShifts.j1 kj3 a0 a1 a2 t216 t220 t224 t228 bt232.1 bt236.1 true)))) = some true := H
        have A18 := Aside0.mk A180
        clear A180
        replace H := Option.bind_eq_some_iff.mp H
        obtain ⟨⟨t232, t233⟩, A190, H⟩ := H
        replace H : ((word_Bits.f kj3 a0 t214).bind fun bt236 => (if t209 = true then (if t211 = true then (if t213 = true then (if t215 = 0 then (if t217 = 0 then (if t221 = 0 then (if t225 = 0 then (if t229 = 0 then (if t233 = 0 then (stereopsislaw01_WordShifts.j1 kj3 a0 a1 a2 t216 t220 t224 t228 t232 bt236.1 (bt236.2 != 0)) else (stereopsislaw01_WordShifts.j1 kj3 a0 a1 a2 t216 t220 t224 t228 t232 bt236.1 true)) else (stereopsislaw01_WordShifts.j1 kj3 a0 a1 a2 t216 t220 t224 t228 t232 bt236.1 true)) else (stereopsislaw01_WordShifts.j1 kj3 a0 a1 a2 t216 t220 t224 t228 t232 bt236.1 true)) else (stereopsislaw01_WordShifts.j1 kj3 a0 a1 a2 t216 t220 t224 t228 t232 bt236.1 true)) else (stereopsislaw01_WordShifts.j1 kj3 a0 a1 a2 t216 t220 t224 t228 t232 bt236.1 true)) else (stereopsislaw01_WordShifts.j1 kj3 a0 a1 a2 t216 t220 t224 t228 t232 bt236.1 true)) else (stereopsislaw01_WordShifts.j1 kj3 a0 a1 a2 t216 t220 t224 t228 t232 bt236.1 true)) else (stereopsislaw01_WordShifts.j1 kj3 a0 a1 a2 t216 t220 t224 t228 t232 bt236.1 true)) else (stereopsislaw01_WordShifts.j1 kj3 a0 a1 a2 t216 t220 t224 t228 t232 bt236.1 true))) = some true := H
        have A19 := Aside0.mk A190
        clear A190
        replace H := Option.bind_eq_some_iff.mp H
        obtain ⟨⟨t236, t237⟩, A200, H⟩ := H
        replace H : (if t209 = true then (if t211 = true then (if t213 = true then (if t215 = 0 then (if t217 = 0 then (if t221 = 0 then (if t225 = 0 then (if t229 = 0 then (if t233 = 0 then (stereopsislaw01_WordShifts.j1 kj3 a0 a1 a2 t216 t220 t224 t228 t232 t236 (t237 != 0)) else (stereopsislaw01_WordShifts.j1 kj3 a0 a1 a2 t216 t220 t224 t228 t232 t236 true)) else (stereopsislaw01_WordShifts.j1 kj3 a0 a1 a2 t216 t220 t224 t228 t232 t236 true)) else (stereopsislaw01_WordShifts.j1 kj3 a0 a1 a2 t216 t220 t224 t228 t232 t236 true)) else (stereopsislaw01_WordShifts.j1 kj3 a0 a1 a2 t216 t220 t224 t228 t232 t236 true)) else (stereopsislaw01_WordShifts.j1 kj3 a0 a1 a2 t216 t220 t224 t228 t232 t236 true)) else (stereopsislaw01_WordShifts.j1 kj3 a0 a1 a2 t216 t220 t224 t228 t232 t236 true)) else (stereopsislaw01_WordShifts.j1 kj3 a0 a1 a2 t216 t220 t224 t228 t232 t236 true)) else (stereopsislaw01_WordShifts.j1 kj3 a0 a1 a2 t216 t220 t224 t228 t232 t236 true)) else (stereopsislaw01_WordShifts.j1 kj3 a0 a1 a2 t216 t220 t224 t228 t232 t236 true)) = some true := H
        have A20 := Aside0.mk A200
        clear A200
        have HC21 := Aside0.mk H
        clear H
        go_upto_region 13 with (first | ((with_reducible refine gate_callee (f := 16) rfl ?_); refine goesL_ (some 51) rfl rfl Try.func16 (by kernel_rfl) rfl #[.int .i64 7, .int .i64 a0, .int .i64 a1, .int .i64 a2] rfl (by (try simp only [List.map_toArray, List.map_cons, List.map_nil]); first | done | rfl | (simp only [List.length_drop, List.length_take]; rfl)) ?_; (with_reducible refine (stereopsislaw01_do.calls kj3 7 a0 a1 a2 t208 t209 _ A11.out).mono ?_); rintro e w22 ⟨rfl, hb⟩; refine ⟨_, rfl, ?_⟩; have n0_ := Aside0.mk (below_step (by repeat (first | (with_reducible first | exact HB.out | apply below_alloc | apply pw_below_drewN | apply below_drew1) | exact HB.out)) hb); clear HB; have HB := n0_; clear n0_; (try clear hb); (try clear hb2); (try clear hk); (try clear hi)) | ((with_reducible refine gate_callee (f := 16) rfl ?_); refine goesL_ (some 58) rfl rfl Try.func16 (by kernel_rfl) rfl #[.int .i64 8, .int .i64 a0, .int .i64 a1, .int .i64 a2] rfl (by (try simp only [List.map_toArray, List.map_cons, List.map_nil]); first | done | rfl | (simp only [List.length_drop, List.length_take]; rfl)) ?_; (with_reducible refine (stereopsislaw01_do.calls kj3 8 a0 a1 a2 t210 t211 _ A12.out).mono ?_); rintro e w23 ⟨rfl, hb⟩; refine ⟨_, rfl, ?_⟩; have n0_ := Aside0.mk (below_step (by repeat (first | (with_reducible first | exact HB.out | apply below_alloc | apply pw_below_drewN | apply below_drew1) | exact HB.out)) hb); clear HB; have HB := n0_; clear n0_; (try clear hb); (try clear hb2); (try clear hk); (try clear hi)) | ((with_reducible refine gate_callee (f := 16) rfl ?_); refine goesL_ (some 65) rfl rfl Try.func16 (by kernel_rfl) rfl #[.int .i64 9, .int .i64 a0, .int .i64 a1, .int .i64 a2] rfl (by (try simp only [List.map_toArray, List.map_cons, List.map_nil]); first | done | rfl | (simp only [List.length_drop, List.length_take]; rfl)) ?_; (with_reducible refine (stereopsislaw01_do.calls kj3 9 a0 a1 a2 t212 t213 _ A13.out).mono ?_); rintro e w24 ⟨rfl, hb⟩; refine ⟨_, rfl, ?_⟩; have n0_ := Aside0.mk (below_step (by repeat (first | (with_reducible first | exact HB.out | apply below_alloc | apply pw_below_drewN | apply below_drew1) | exact HB.out)) hb); clear HB; have HB := n0_; clear n0_; (try clear hb); (try clear hb2); (try clear hk); (try clear hi)) | ((with_reducible refine gate_callee (f := 17) rfl ?_); refine goesL_ (some 71) rfl rfl Try.func17 (by kernel_rfl) rfl #[.int .i64 a0, .int .i64 a1] rfl (by (try simp only [List.map_toArray, List.map_cons, List.map_nil]); first | done | rfl | (simp only [List.length_drop, List.length_take]; rfl)) ?_; (with_reducible refine (word_Not.calls kj3 a0 a1 t214 t215 _ A14.out).mono ?_); rintro e w25 ⟨rfl, hb⟩; refine ⟨_, rfl, ?_⟩; have n0_ := Aside0.mk (below_step (by repeat (first | (with_reducible first | exact HB.out | apply below_alloc | apply pw_below_drewN | apply below_drew1) | exact HB.out)) hb); clear HB; have HB := n0_; clear n0_; (try clear hb); (try clear hb2); (try clear hk); (try clear hi)) | ((with_reducible refine gate_callee (f := 9) rfl ?_); refine goesL_ (some 77) rfl rfl Try.func9 (by kernel_rfl) rfl #[.int .i64 a0, .int .i64 a1] rfl (by (try simp only [List.map_toArray, List.map_cons, List.map_nil]); first | done | rfl | (simp only [List.length_drop, List.length_take]; rfl)) ?_; (with_reducible refine (word_Bits.calls kj3 a0 a1 t216 t217 _ A15.out).mono ?_); rintro e w26 ⟨v218, rfl, ho0, hb⟩; refine ⟨_, rfl, ?_⟩; have n0_ := Aside0.mk (Kd.R_lower ho0 (below_size (by repeat (first | (with_reducible first | exact HB.out | apply below_alloc | apply pw_below_drewN | apply below_drew1) | exact HB.out)))); have n1_ := Aside0.mk (below_step (by repeat (first | (with_reducible first | exact HB.out | apply below_alloc | apply pw_below_drewN | apply below_drew1) | exact HB.out)) hb); clear HB; have HO219 := n0_; have HB := n1_; clear n0_ n1_; (try clear hb); (try clear hb2); (try clear hk); (try clear hi); (try clear ho0)) | ((with_reducible refine gate_callee (f := 9) rfl ?_); refine goesL_ (some 83) rfl rfl Try.func9 (by kernel_rfl) rfl #[.int .i64 a0, .int .i64 a2] rfl (by (try simp only [List.map_toArray, List.map_cons, List.map_nil]); first | done | rfl | (simp only [List.length_drop, List.length_take]; rfl)) ?_; (with_reducible refine (word_Bits.calls kj3 a0 a2 t220 t221 _ A16.out).mono ?_); rintro e w27 ⟨v222, rfl, ho0, hb⟩; refine ⟨_, rfl, ?_⟩; have n0_ := Aside0.mk (Kd.R_elder' (by (with_reducible repeat (first | apply Kd.R_alloc | apply Kd.R_drewN | apply Kd.R_drew)); exact HO219.out) (Kd.R_base ho0) hb); have n1_ := Aside0.mk (Kd.R_lower (Kd.R_new' ho0 (Kd.R_lt (by (with_reducible repeat (first | apply Kd.R_alloc | apply Kd.R_drewN | apply Kd.R_drew)); exact HO219.out))) (below_size (by repeat (first | (with_reducible first | exact HB.out | apply below_alloc | apply pw_below_drewN | apply below_drew1) | exact HB.out)))); have n2_ := Aside0.mk (below_step (by repeat (first | (with_reducible first | exact HB.out | apply below_alloc | apply pw_below_drewN | apply below_drew1) | exact HB.out)) hb); clear HO219; clear HB; have HO219 := n0_; have HO223 := n1_; have HB := n2_; clear n0_ n1_ n2_; (try clear hb); (try clear hb2); (try clear hk); (try clear hi); (try clear ho0)) | ((with_reducible refine gate_callee (f := 9) rfl ?_); refine goesL_ (some 89) rfl rfl Try.func9 (by kernel_rfl) rfl #[.int .i64 a0, .int .i64 t208] rfl (by (try simp only [List.map_toArray, List.map_cons, List.map_nil]); first | done | rfl | (simp only [List.length_drop, List.length_take]; rfl)) ?_; (with_reducible refine (word_Bits.calls kj3 a0 t208 t224 t225 _ A17.out).mono ?_); rintro e w28 ⟨v226, rfl, ho0, hb⟩; refine ⟨_, rfl, ?_⟩; have n0_ := Aside0.mk (Kd.R_elder' (by (with_reducible repeat (first | apply Kd.R_alloc | apply Kd.R_drewN | apply Kd.R_drew)); exact HO219.out) (Kd.R_base ho0) hb); have n1_ := Aside0.mk (Kd.R_elder' (by (with_reducible repeat (first | apply Kd.R_alloc | apply Kd.R_drewN | apply Kd.R_drew)); exact HO223.out) (Kd.R_base ho0) hb); have n2_ := Aside0.mk (Kd.R_lower (Kd.R_new' (Kd.R_new' ho0 (Kd.R_lt (by (with_reducible repeat (first | apply Kd.R_alloc | apply Kd.R_drewN | apply Kd.R_drew)); exact HO219.out))) (Kd.R_lt (by (with_reducible repeat (first | apply Kd.R_alloc | apply Kd.R_drewN | apply Kd.R_drew)); exact HO223.out))) (below_size (by repeat (first | (with_reducible first | exact HB.out | apply below_alloc | apply pw_below_drewN | apply below_drew1) | exact HB.out)))); have n3_ := Aside0.mk (below_step (by repeat (first | (with_reducible first | exact HB.out | apply below_alloc | apply pw_below_drewN | apply below_drew1) | exact HB.out)) hb); clear HO219; clear HO223; clear HB; have HO219 := n0_; have HO223 := n1_; have HO227 := n2_; have HB := n3_; clear n0_ n1_ n2_ n3_; (try clear hb); (try clear hb2); (try clear hk); (try clear hi); (try clear ho0)) | ((with_reducible refine gate_callee (f := 9) rfl ?_); refine goesL_ (some 95) rfl rfl Try.func9 (by kernel_rfl) rfl #[.int .i64 a0, .int .i64 t210] rfl (by (try simp only [List.map_toArray, List.map_cons, List.map_nil]); first | done | rfl | (simp only [List.length_drop, List.length_take]; rfl)) ?_; (with_reducible refine (word_Bits.calls kj3 a0 t210 t228 t229 _ A18.out).mono ?_); rintro e w29 ⟨v230, rfl, ho0, hb⟩; refine ⟨_, rfl, ?_⟩; have n0_ := Aside0.mk (Kd.R_elder' (by (with_reducible repeat (first | apply Kd.R_alloc | apply Kd.R_drewN | apply Kd.R_drew)); exact HO219.out) (Kd.R_base ho0) hb); have n1_ := Aside0.mk (Kd.R_elder' (by (with_reducible repeat (first | apply Kd.R_alloc | apply Kd.R_drewN | apply Kd.R_drew)); exact HO223.out) (Kd.R_base ho0) hb); have n2_ := Aside0.mk (Kd.R_elder' (by (with_reducible repeat (first | apply Kd.R_alloc | apply Kd.R_drewN | apply Kd.R_drew)); exact HO227.out) (Kd.R_base ho0) hb); have n3_ := Aside0.mk (Kd.R_lower (Kd.R_new' (Kd.R_new' (Kd.R_new' ho0 (Kd.R_lt (by (with_reducible repeat (first | apply Kd.R_alloc | apply Kd.R_drewN | apply Kd.R_drew)); exact HO219.out))) (Kd.R_lt (by (with_reducible repeat (first | apply Kd.R_alloc | apply Kd.R_drewN | apply Kd.R_drew)); exact HO223.out))) (Kd.R_lt (by (with_reducible repeat (first | apply Kd.R_alloc | apply Kd.R_drewN | apply Kd.R_drew)); exact HO227.out))) (below_size (by repeat (first | (with_reducible first | exact HB.out | apply below_alloc | apply pw_below_drewN | apply below_drew1) | exact HB.out)))); have n4_ := Aside0.mk (below_step (by repeat (first | (with_reducible first | exact HB.out | apply below_alloc | apply pw_below_drewN | apply below_drew1) | exact HB.out)) hb); clear HO219; clear HO223; clear HO227; clear HB; have HO219 := n0_; have HO223 := n1_; have HO227 := n2_; have HO231 := n3_; have HB := n4_; clear n0_ n1_ n2_ n3_ n4_; (try clear hb); (try clear hb2); (try clear hk); (try clear hi); (try clear ho0)) | ((with_reducible refine gate_callee (f := 9) rfl ?_); refine goesL_ (some 101) rfl rfl Try.func9 (by kernel_rfl) rfl #[.int .i64 a0, .int .i64 t212] rfl (by (try simp only [List.map_toArray, List.map_cons, List.map_nil]); first | done | rfl | (simp only [List.length_drop, List.length_take]; rfl)) ?_; (with_reducible refine (word_Bits.calls kj3 a0 t212 t232 t233 _ A19.out).mono ?_); rintro e w30 ⟨v234, rfl, ho0, hb⟩; refine ⟨_, rfl, ?_⟩; have n0_ := Aside0.mk (Kd.R_elder' (by (with_reducible repeat (first | apply Kd.R_alloc | apply Kd.R_drewN | apply Kd.R_drew)); exact HO219.out) (Kd.R_base ho0) hb); have n1_ := Aside0.mk (Kd.R_elder' (by (with_reducible repeat (first | apply Kd.R_alloc | apply Kd.R_drewN | apply Kd.R_drew)); exact HO223.out) (Kd.R_base ho0) hb); have n2_ := Aside0.mk (Kd.R_elder' (by (with_reducible repeat (first | apply Kd.R_alloc | apply Kd.R_drewN | apply Kd.R_drew)); exact HO227.out) (Kd.R_base ho0) hb); have n3_ := Aside0.mk (Kd.R_elder' (by (with_reducible repeat (first | apply Kd.R_alloc | apply Kd.R_drewN | apply Kd.R_drew)); exact HO231.out) (Kd.R_base ho0) hb); have n4_ := Aside0.mk (Kd.R_lower (Kd.R_new' (Kd.R_new' (Kd.R_new' (Kd.R_new' ho0 (Kd.R_lt (by (with_reducible repeat (first | apply Kd.R_alloc | apply Kd.R_drewN | apply Kd.R_drew)); exact HO219.out))) (Kd.R_lt (by (with_reducible repeat (first | apply Kd.R_alloc | apply Kd.R_drewN | apply Kd.R_drew)); exact HO223.out))) (Kd.R_lt (by (with_reducible repeat (first | apply Kd.R_alloc | apply Kd.R_drewN | apply Kd.R_drew)); exact HO227.out))) (Kd.R_lt (by (with_reducible repeat (first | apply Kd.R_alloc | apply Kd.R_drewN | apply Kd.R_drew)); exact HO231.out))) (below_size (by repeat (first | (with_reducible first | exact HB.out | apply below_alloc | apply pw_below_drewN | apply below_drew1) | exact HB.out)))); have n5_ := Aside0.mk (below_step (by repeat (first | (with_reducible first | exact HB.out | apply below_alloc | apply pw_below_drewN | apply below_drew1) | exact HB.out)) hb); clear HO219; clear HO223; clear HO227; clear HO231; clear HB; have HO219 := n0_; have HO223 := n1_; have HO227 := n2_; have HO231 := n3_; have HO235 := n4_; have HB := n5_; clear n0_ n1_ n2_ n3_ n4_ n5_; (try clear hb); (try clear hb2); (try clear hk); (try clear hi); (try clear ho0)) | ((with_reducible refine gate_callee (f := 9) rfl ?_); refine goesL_ (some 107) rfl rfl Try.func9 (by kernel_rfl) rfl #[.int .i64 a0, .int .i64 t214] rfl (by (try simp only [List.map_toArray, List.map_cons, List.map_nil]); first | done | rfl | (simp only [List.length_drop, List.length_take]; rfl)) ?_; (with_reducible refine (word_Bits.calls kj3 a0 t214 t236 t237 _ A20.out).mono ?_); rintro e w31 ⟨v238, rfl, ho0, hb⟩; refine ⟨_, rfl, ?_⟩; have n0_ := Aside0.mk (Kd.R_elder' (by (with_reducible repeat (first | apply Kd.R_alloc | apply Kd.R_drewN | apply Kd.R_drew)); exact HO219.out) (Kd.R_base ho0) hb); have n1_ := Aside0.mk (Kd.R_elder' (by (with_reducible repeat (first | apply Kd.R_alloc | apply Kd.R_drewN | apply Kd.R_drew)); exact HO223.out) (Kd.R_base ho0) hb); have n2_ := Aside0.mk (Kd.R_elder' (by (with_reducible repeat (first | apply Kd.R_alloc | apply Kd.R_drewN | apply Kd.R_drew)); exact HO227.out) (Kd.R_base ho0) hb); have n3_ := Aside0.mk (Kd.R_elder' (by (with_reducible repeat (first | apply Kd.R_alloc | apply Kd.R_drewN | apply Kd.R_drew)); exact HO231.out) (Kd.R_base ho0) hb); have n4_ := Aside0.mk (Kd.R_elder' (by (with_reducible repeat (first | apply Kd.R_alloc | apply Kd.R_drewN | apply Kd.R_drew)); exact HO235.out) (Kd.R_base ho0) hb); have n5_ := Aside0.mk (Kd.R_lower (Kd.R_new' (Kd.R_new' (Kd.R_new' (Kd.R_new' (Kd.R_new' ho0 (Kd.R_lt (by (with_reducible repeat (first | apply Kd.R_alloc | apply Kd.R_drewN | apply Kd.R_drew)); exact HO219.out))) (Kd.R_lt (by (with_reducible repeat (first | apply Kd.R_alloc | apply Kd.R_drewN | apply Kd.R_drew)); exact HO223.out))) (Kd.R_lt (by (with_reducible repeat (first | apply Kd.R_alloc | apply Kd.R_drewN | apply Kd.R_drew)); exact HO227.out))) (Kd.R_lt (by (with_reducible repeat (first | apply Kd.R_alloc | apply Kd.R_drewN | apply Kd.R_drew)); exact HO231.out))) (Kd.R_lt (by (with_reducible repeat (first | apply Kd.R_alloc | apply Kd.R_drewN | apply Kd.R_drew)); exact HO235.out))) (below_size (by repeat (first | (with_reducible first | exact HB.out | apply below_alloc | apply pw_below_drewN | apply below_drew1) | exact HB.out)))); have n6_ := Aside0.mk (below_step (by repeat (first | (with_reducible first | exact HB.out | apply below_alloc | apply pw_below_drewN | apply below_drew1) | exact HB.out)) hb); clear HO219; clear HO223; clear HO227; clear HO231; clear HO235; clear HB; have HO219 := n0_; have HO223 := n1_; have HO227 := n2_; have HO231 := n3_; have HO235 := n4_; have HO239 := n5_; have HB := n6_; clear n0_ n1_ n2_ n3_ n4_ n5_ n6_; (try clear hb); (try clear hb2); (try clear hk); (try clear hi); (try clear ho0)))
        (try simp only [Act.put, List.setIfInBounds_toArray, List.set_cons_zero, List.set_cons_succ])
        go_cut [147] (fun v147 wc => ∃ (kq : Nat) (x147_20 : Bool), v147 = .bool x147_20 ∧ Aside0 (stereopsislaw01_WordShifts.j1 kq a0 a1 a2 t216 t220 t224 t228 t232 t236 x147_20 = some true) ∧ Aside0 (kq ≤ kj3) ∧ Aside0 (Kd.R (Kd.int .i64) 3 wc w.heap.size (fun k_ => some k_ ≠ (v222 : Value).ownBlock ∧ some k_ ≠ (v226 : Value).ownBlock ∧ some k_ ≠ (v230 : Value).ownBlock ∧ some k_ ≠ (v234 : Value).ownBlock ∧ some k_ ≠ (v238 : Value).ownBlock) v218 t216) ∧ Aside0 (Kd.R (Kd.int .i64) 3 wc w.heap.size (fun k_ => some k_ ≠ (v218 : Value).ownBlock ∧ some k_ ≠ (v226 : Value).ownBlock ∧ some k_ ≠ (v230 : Value).ownBlock ∧ some k_ ≠ (v234 : Value).ownBlock ∧ some k_ ≠ (v238 : Value).ownBlock) v222 t220) ∧ Aside0 (Kd.R (Kd.int .i64) 3 wc w.heap.size (fun k_ => some k_ ≠ (v218 : Value).ownBlock ∧ some k_ ≠ (v222 : Value).ownBlock ∧ some k_ ≠ (v230 : Value).ownBlock ∧ some k_ ≠ (v234 : Value).ownBlock ∧ some k_ ≠ (v238 : Value).ownBlock) v226 t224) ∧ Aside0 (Kd.R (Kd.int .i64) 3 wc w.heap.size (fun k_ => some k_ ≠ (v218 : Value).ownBlock ∧ some k_ ≠ (v222 : Value).ownBlock ∧ some k_ ≠ (v226 : Value).ownBlock ∧ some k_ ≠ (v234 : Value).ownBlock ∧ some k_ ≠ (v238 : Value).ownBlock) v230 t228) ∧ Aside0 (Kd.R (Kd.int .i64) 3 wc w.heap.size (fun k_ => some k_ ≠ (v218 : Value).ownBlock ∧ some k_ ≠ (v222 : Value).ownBlock ∧ some k_ ≠ (v226 : Value).ownBlock ∧ some k_ ≠ (v230 : Value).ownBlock ∧ some k_ ≠ (v238 : Value).ownBlock) v234 t232) ∧ Aside0 (Kd.R (Kd.int .i64) 3 wc w.heap.size (fun k_ => some k_ ≠ (v218 : Value).ownBlock ∧ some k_ ≠ (v222 : Value).ownBlock ∧ some k_ ≠ (v226 : Value).ownBlock ∧ some k_ ≠ (v230 : Value).ownBlock ∧ some k_ ≠ (v234 : Value).ownBlock) v238 t236) ∧ Aside0 (Below w.heap.size w wc))
        case first =>
          have H := HC21.out
          clear HC21
          by_cases c32 : t209 = true
          · subst c32
            have H1 : (if t211 = true then (if t213 = true then (if t215 = 0 then (if t217 = 0 then (if t221 = 0 then (if t225 = 0 then (if t229 = 0 then (if t233 = 0 then (stereopsislaw01_WordShifts.j1 kj3 a0 a1 a2 t216 t220 t224 t228 t232 t236 (t237 != 0)) else (stereopsislaw01_WordShifts.j1 kj3 a0 a1 a2 t216 t220 t224 t228 t232 t236 true)) else (stereopsislaw01_WordShifts.j1 kj3 a0 a1 a2 t216 t220 t224 t228 t232 t236 true)) else (stereopsislaw01_WordShifts.j1 kj3 a0 a1 a2 t216 t220 t224 t228 t232 t236 true)) else (stereopsislaw01_WordShifts.j1 kj3 a0 a1 a2 t216 t220 t224 t228 t232 t236 true)) else (stereopsislaw01_WordShifts.j1 kj3 a0 a1 a2 t216 t220 t224 t228 t232 t236 true)) else (stereopsislaw01_WordShifts.j1 kj3 a0 a1 a2 t216 t220 t224 t228 t232 t236 true)) else (stereopsislaw01_WordShifts.j1 kj3 a0 a1 a2 t216 t220 t224 t228 t232 t236 true)) else (stereopsislaw01_WordShifts.j1 kj3 a0 a1 a2 t216 t220 t224 t228 t232 t236 true)) = some true := by rw [if_pos rfl] at H; exact H
            clear H
            have H := H1
            clear H1
            by_cases c33 : t211 = true
            · subst c33
              have H1 : (if t213 = true then (if t215 = 0 then (if t217 = 0 then (if t221 = 0 then (if t225 = 0 then (if t229 = 0 then (if t233 = 0 then (stereopsislaw01_WordShifts.j1 kj3 a0 a1 a2 t216 t220 t224 t228 t232 t236 (t237 != 0)) else (stereopsislaw01_WordShifts.j1 kj3 a0 a1 a2 t216 t220 t224 t228 t232 t236 true)) else (stereopsislaw01_WordShifts.j1 kj3 a0 a1 a2 t216 t220 t224 t228 t232 t236 true)) else (stereopsislaw01_WordShifts.j1 kj3 a0 a1 a2 t216 t220 t224 t228 t232 t236 true)) else (stereopsislaw01_WordShifts.j1 kj3 a0 a1 a2 t216 t220 t224 t228 t232 t236 true)) else (stereopsislaw01_WordShifts.j1 kj3 a0 a1 a2 t216 t220 t224 t228 t232 t236 true)) else (stereopsislaw01_WordShifts.j1 kj3 a0 a1 a2 t216 t220 t224 t228 t232 t236 true)) else (stereopsislaw01_WordShifts.j1 kj3 a0 a1 a2 t216 t220 t224 t228 t232 t236 true)) = some true := by rw [if_pos rfl] at H; exact H
              clear H
              have H := H1
              clear H1
              by_cases c34 : t213 = true
              · subst c34
                have H1 : (if t215 = 0 then (if t217 = 0 then (if t221 = 0 then (if t225 = 0 then (if t229 = 0 then (if t233 = 0 then (stereopsislaw01_WordShifts.j1 kj3 a0 a1 a2 t216 t220 t224 t228 t232 t236 (t237 != 0)) else (stereopsislaw01_WordShifts.j1 kj3 a0 a1 a2 t216 t220 t224 t228 t232 t236 true)) else (stereopsislaw01_WordShifts.j1 kj3 a0 a1 a2 t216 t220 t224 t228 t232 t236 true)) else (stereopsislaw01_WordShifts.j1 kj3 a0 a1 a2 t216 t220 t224 t228 t232 t236 true)) else (stereopsislaw01_WordShifts.j1 kj3 a0 a1 a2 t216 t220 t224 t228 t232 t236 true)) else (stereopsislaw01_WordShifts.j1 kj3 a0 a1 a2 t216 t220 t224 t228 t232 t236 true)) else (stereopsislaw01_WordShifts.j1 kj3 a0 a1 a2 t216 t220 t224 t228 t232 t236 true)) = some true := by rw [if_pos rfl] at H; exact H
                clear H
                have H := H1
                clear H1
                by_cases c35 : t215 = 0
                · rw [if_pos c35] at H
                  have c35b0 : (t215 == 0) = true := beq_iff_eq.mpr c35
                  have c35b1 : (t215 != 0) = false := bne_eq_false_iff_eq.mpr c35
                  clear c35
                  (first | rw [c35b0] | (simp only [i64_w, i32_w]; rw [c35b0]) | skip)
                  by_cases c36 : t217 = 0
                  · rw [if_pos c36] at H
                    have c36b0 : (t217 == 0) = true := beq_iff_eq.mpr c36
                    have c36b1 : (t217 != 0) = false := bne_eq_false_iff_eq.mpr c36
                    clear c36
                    by_cases c37 : t221 = 0
                    · rw [if_pos c37] at H
                      have c37b0 : (t221 == 0) = true := beq_iff_eq.mpr c37
                      have c37b1 : (t221 != 0) = false := bne_eq_false_iff_eq.mpr c37
                      clear c37
                      by_cases c38 : t225 = 0
                      · rw [if_pos c38] at H
                        have c38b0 : (t225 == 0) = true := beq_iff_eq.mpr c38
                        have c38b1 : (t225 != 0) = false := bne_eq_false_iff_eq.mpr c38
                        clear c38
                        by_cases c39 : t229 = 0
                        · rw [if_pos c39] at H
                          have c39b0 : (t229 == 0) = true := beq_iff_eq.mpr c39
                          have c39b1 : (t229 != 0) = false := bne_eq_false_iff_eq.mpr c39
                          clear c39
                          by_cases c40 : t233 = 0
                          · rw [if_pos c40] at H
                            have c40b0 : (t233 == 0) = true := beq_iff_eq.mpr c40
                            have c40b1 : (t233 != 0) = false := bne_eq_false_iff_eq.mpr c40
                            clear c40
                            as_aux_lemma =>
                              have H' := Aside0.mk H
                              clear H
                              go_wp2
                              go_meet
                              case rel => exact ⟨_, ((t237 != 0)), (by first | rfl | (simp; done) | (simp [*]; done)), H', ⟨by have := HJ3.out; first | omega | exact Nat.le_refl _⟩, ⟨by (with_reducible repeat (first | apply Kd.R_alloc | apply Kd.R_drewN | apply Kd.R_drew)); exact Kd.R_mono HO219.out (fun _ hk => ⟨hk.1.1.1.1.2, ⟨hk.1.1.1.2, ⟨hk.1.1.2, ⟨hk.1.2, hk.2⟩⟩⟩⟩)⟩, ⟨by (with_reducible repeat (first | apply Kd.R_alloc | apply Kd.R_drewN | apply Kd.R_drew)); exact Kd.R_mono HO223.out (fun _ hk => ⟨hk.1.1.1.1.2, ⟨hk.1.1.1.2, ⟨hk.1.1.2, ⟨hk.1.2, hk.2⟩⟩⟩⟩)⟩, ⟨by (with_reducible repeat (first | apply Kd.R_alloc | apply Kd.R_drewN | apply Kd.R_drew)); exact Kd.R_mono HO227.out (fun _ hk => ⟨hk.1.1.1.1.2, ⟨hk.1.1.1.2, ⟨hk.1.1.2, ⟨hk.1.2, hk.2⟩⟩⟩⟩)⟩, ⟨by (with_reducible repeat (first | apply Kd.R_alloc | apply Kd.R_drewN | apply Kd.R_drew)); exact Kd.R_mono HO231.out (fun _ hk => ⟨hk.1.1.1.1.2, ⟨hk.1.1.1.2, ⟨hk.1.1.2, ⟨hk.1.2, hk.2⟩⟩⟩⟩)⟩, ⟨by (with_reducible repeat (first | apply Kd.R_alloc | apply Kd.R_drewN | apply Kd.R_drew)); exact Kd.R_mono HO235.out (fun _ hk => ⟨hk.1.1.1.1.2, ⟨hk.1.1.1.2, ⟨hk.1.1.2, ⟨hk.1.2, hk.2⟩⟩⟩⟩)⟩, ⟨by (with_reducible repeat (first | apply Kd.R_alloc | apply Kd.R_drewN | apply Kd.R_drew)); exact Kd.R_mono HO239.out (fun _ hk => ⟨hk.1.1.1.1.2, ⟨hk.1.1.1.2, ⟨hk.1.1.2, ⟨hk.1.2, hk.2⟩⟩⟩⟩)⟩, ⟨by repeat (first | (with_reducible first | exact HB.out | apply below_alloc | apply pw_below_drewN | apply below_drew1) | exact HB.out)⟩⟩
                          · rw [if_neg c40] at H
                            have c40b0 : (t233 == 0) = false := beq_eq_false_iff_ne.mpr c40
                            have c40b1 : (t233 != 0) = true := bne_iff_ne.mpr c40
                            exact absurd H (stereopsislaw01_WordShifts.j1_not _ _ _ _ _ _ _ _ _ _)
                        · rw [if_neg c39] at H
                          have c39b0 : (t229 == 0) = false := beq_eq_false_iff_ne.mpr c39
                          have c39b1 : (t229 != 0) = true := bne_iff_ne.mpr c39
                          exact absurd H (stereopsislaw01_WordShifts.j1_not _ _ _ _ _ _ _ _ _ _)
                      · rw [if_neg c38] at H
                        have c38b0 : (t225 == 0) = false := beq_eq_false_iff_ne.mpr c38
                        have c38b1 : (t225 != 0) = true := bne_iff_ne.mpr c38
                        exact absurd H (stereopsislaw01_WordShifts.j1_not _ _ _ _ _ _ _ _ _ _)
                    · rw [if_neg c37] at H
                      have c37b0 : (t221 == 0) = false := beq_eq_false_iff_ne.mpr c37
                      have c37b1 : (t221 != 0) = true := bne_iff_ne.mpr c37
                      exact absurd H (stereopsislaw01_WordShifts.j1_not _ _ _ _ _ _ _ _ _ _)
                  · rw [if_neg c36] at H
                    have c36b0 : (t217 == 0) = false := beq_eq_false_iff_ne.mpr c36
                    have c36b1 : (t217 != 0) = true := bne_iff_ne.mpr c36
                    exact absurd H (stereopsislaw01_WordShifts.j1_not _ _ _ _ _ _ _ _ _ _)
                · rw [if_neg c35] at H
                  have c35b0 : (t215 == 0) = false := beq_eq_false_iff_ne.mpr c35
                  have c35b1 : (t215 != 0) = true := bne_iff_ne.mpr c35
                  (first | rw [c35b0] | (simp only [i64_w, i32_w]; rw [c35b0]) | skip)
                  exact absurd H (stereopsislaw01_WordShifts.j1_not _ _ _ _ _ _ _ _ _ _)
              · replace c34 := Bool.eq_false_iff.mpr c34
                subst c34
                have H1 : (stereopsislaw01_WordShifts.j1 kj3 a0 a1 a2 t216 t220 t224 t228 t232 t236 true) = some true := by rw [if_neg (show ¬ (false = true) by decide)] at H; exact H
                clear H
                have H := H1
                clear H1
                exact absurd H (stereopsislaw01_WordShifts.j1_not _ _ _ _ _ _ _ _ _ _)
            · replace c33 := Bool.eq_false_iff.mpr c33
              subst c33
              have H1 : (stereopsislaw01_WordShifts.j1 kj3 a0 a1 a2 t216 t220 t224 t228 t232 t236 true) = some true := by rw [if_neg (show ¬ (false = true) by decide)] at H; exact H
              clear H
              have H := H1
              clear H1
              exact absurd H (stereopsislaw01_WordShifts.j1_not _ _ _ _ _ _ _ _ _ _)
          · replace c32 := Bool.eq_false_iff.mpr c32
            subst c32
            have H1 : (stereopsislaw01_WordShifts.j1 kj3 a0 a1 a2 t216 t220 t224 t228 t232 t236 true) = some true := by rw [if_neg (show ¬ (false = true) by decide)] at H; exact H
            clear H
            have H := H1
            clear H1
            exact absurd H (stereopsislaw01_WordShifts.j1_not _ _ _ _ _ _ _ _ _ _)
        case rest =>
          clear HC21
          try clear c1
          try clear p2
          try clear c3
          try clear c4
          try clear c5
          try clear c6
          try clear c8
          try clear c9
          try clear c10
          try clear c14
          try clear c16
          try clear c17
          try clear c32
          try clear c33
          try clear c34
          try clear c35
          try clear c35b0
          try clear c35b1
          try clear c36
          try clear c36b0
          try clear c36b1
          try clear c37
          try clear c37b0
          try clear c37b1
          try clear c38
          try clear c38b0
          try clear c38b1
          try clear c39
          try clear c39b0
          try clear c39b1
          try clear c40
          try clear c40b0
          try clear c40b1
          try clear p2
          obtain ⟨kq, x147_20, rfl, HA, HJ20, HO_15, HO_17, HO_19, HO_21, HO_23, HO_25, HB⟩ := hcut
          cases kq with
          | zero => exact absurd HA.out (by simp [stereopsislaw01_WordShifts.j1])
          | succ kj20 =>
            have H := HA.out
            clear HA
            simp only [stereopsislaw01_WordShifts.j1] at H
            by_cases c41 : x147_20 = true
            · subst c41
              have H1 : (some false) = some true := by rw [if_pos rfl] at H; exact H
              clear H
              have H := H1
              clear H1
              as_aux_lemma =>
                exact absurd H (by simp)
            · replace c41 := Bool.eq_false_iff.mpr c41
              subst c41
              have H1 : (if (t216.length : Int) = a0 then (if (t220.length : Int) = a0 then (if (t224.length : Int) = a0 then (if (t228.length : Int) = a0 then (if (t232.length : Int) = a0 then (stereopsislaw01_WordShifts.j2 kj20 a0 a1 a2 t216 t220 t224 t228 t232 t236 ((t236.length : Int) != a0)) else (stereopsislaw01_WordShifts.j2 kj20 a0 a1 a2 t216 t220 t224 t228 t232 t236 true)) else (stereopsislaw01_WordShifts.j2 kj20 a0 a1 a2 t216 t220 t224 t228 t232 t236 true)) else (stereopsislaw01_WordShifts.j2 kj20 a0 a1 a2 t216 t220 t224 t228 t232 t236 true)) else (stereopsislaw01_WordShifts.j2 kj20 a0 a1 a2 t216 t220 t224 t228 t232 t236 true)) else (stereopsislaw01_WordShifts.j2 kj20 a0 a1 a2 t216 t220 t224 t228 t232 t236 true)) = some true := by rw [if_neg (show ¬ (false = true) by decide)] at H; exact H
              clear H
              have H := H1
              clear H1
              have HC42 := Aside0.mk H
              clear H
              go_upto_region 15 with (fail)
              go_cut [181] (fun v181 wc => ∃ (kq : Nat) (x181_41 : Bool), v181 = .bool x181_41 ∧ Aside0 (stereopsislaw01_WordShifts.j2 kq a0 a1 a2 t216 t220 t224 t228 t232 t236 x181_41 = some true) ∧ Aside0 (kq ≤ kj20) ∧ Aside0 (Kd.R (Kd.int .i64) 3 wc w.heap.size (fun k_ => some k_ ≠ (v222 : Value).ownBlock ∧ some k_ ≠ (v226 : Value).ownBlock ∧ some k_ ≠ (v230 : Value).ownBlock ∧ some k_ ≠ (v234 : Value).ownBlock ∧ some k_ ≠ (v238 : Value).ownBlock) v218 t216) ∧ Aside0 (Kd.R (Kd.int .i64) 3 wc w.heap.size (fun k_ => some k_ ≠ (v218 : Value).ownBlock ∧ some k_ ≠ (v226 : Value).ownBlock ∧ some k_ ≠ (v230 : Value).ownBlock ∧ some k_ ≠ (v234 : Value).ownBlock ∧ some k_ ≠ (v238 : Value).ownBlock) v222 t220) ∧ Aside0 (Kd.R (Kd.int .i64) 3 wc w.heap.size (fun k_ => some k_ ≠ (v218 : Value).ownBlock ∧ some k_ ≠ (v222 : Value).ownBlock ∧ some k_ ≠ (v230 : Value).ownBlock ∧ some k_ ≠ (v234 : Value).ownBlock ∧ some k_ ≠ (v238 : Value).ownBlock) v226 t224) ∧ Aside0 (Kd.R (Kd.int .i64) 3 wc w.heap.size (fun k_ => some k_ ≠ (v218 : Value).ownBlock ∧ some k_ ≠ (v222 : Value).ownBlock ∧ some k_ ≠ (v226 : Value).ownBlock ∧ some k_ ≠ (v234 : Value).ownBlock ∧ some k_ ≠ (v238 : Value).ownBlock) v230 t228) ∧ Aside0 (Kd.R (Kd.int .i64) 3 wc w.heap.size (fun k_ => some k_ ≠ (v218 : Value).ownBlock ∧ some k_ ≠ (v222 : Value).ownBlock ∧ some k_ ≠ (v226 : Value).ownBlock ∧ some k_ ≠ (v230 : Value).ownBlock ∧ some k_ ≠ (v238 : Value).ownBlock) v234 t232) ∧ Aside0 (Kd.R (Kd.int .i64) 3 wc w.heap.size (fun k_ => some k_ ≠ (v218 : Value).ownBlock ∧ some k_ ≠ (v222 : Value).ownBlock ∧ some k_ ≠ (v226 : Value).ownBlock ∧ some k_ ≠ (v230 : Value).ownBlock ∧ some k_ ≠ (v234 : Value).ownBlock) v238 t236) ∧ Aside0 (Below w.heap.size w wc))
              case first =>
                have H := HC42.out
                clear HC42
                by_cases c43 : (t216.length : Int) = a0
                · rw [if_pos c43] at H
                  have c43b0 : ((t216.length : Int) == a0) = true := beq_iff_eq.mpr c43
                  have c43b1 : ((t216.length : Int) != a0) = false := bne_eq_false_iff_eq.mpr c43
                  clear c43
                  (first | rw [c43b0] | (simp only [i64_w, i32_w]; rw [c43b0]) | skip)
                  by_cases c44 : (t220.length : Int) = a0
                  · rw [if_pos c44] at H
                    have c44b0 : ((t220.length : Int) == a0) = true := beq_iff_eq.mpr c44
                    have c44b1 : ((t220.length : Int) != a0) = false := bne_eq_false_iff_eq.mpr c44
                    clear c44
                    by_cases c45 : (t224.length : Int) = a0
                    · rw [if_pos c45] at H
                      have c45b0 : ((t224.length : Int) == a0) = true := beq_iff_eq.mpr c45
                      have c45b1 : ((t224.length : Int) != a0) = false := bne_eq_false_iff_eq.mpr c45
                      clear c45
                      by_cases c46 : (t228.length : Int) = a0
                      · rw [if_pos c46] at H
                        have c46b0 : ((t228.length : Int) == a0) = true := beq_iff_eq.mpr c46
                        have c46b1 : ((t228.length : Int) != a0) = false := bne_eq_false_iff_eq.mpr c46
                        clear c46
                        by_cases c47 : (t232.length : Int) = a0
                        · rw [if_pos c47] at H
                          have c47b0 : ((t232.length : Int) == a0) = true := beq_iff_eq.mpr c47
                          have c47b1 : ((t232.length : Int) != a0) = false := bne_eq_false_iff_eq.mpr c47
                          clear c47
                          as_aux_lemma =>
                            have H' := Aside0.mk H
                            clear H
                            obtain ⟨Ao48, co48, eo48⟩ := Kd.R_slice HO_15.out
                            subst eo48
                            obtain ⟨Ao49, co49, eo49⟩ := Kd.R_slice HO_17.out
                            subst eo49
                            obtain ⟨Ao50, co50, eo50⟩ := Kd.R_slice HO_19.out
                            subst eo50
                            obtain ⟨Ao51, co51, eo51⟩ := Kd.R_slice HO_21.out
                            subst eo51
                            obtain ⟨Ao52, co52, eo52⟩ := Kd.R_slice HO_23.out
                            subst eo52
                            obtain ⟨Ao53, co53, eo53⟩ := Kd.R_slice HO_25.out
                            subst eo53
                            go_wp2
                            go_meet
                            case rel => exact ⟨_, (((t236.length : Int) != a0)), (by first | rfl | (simp; done) | (simp [*]; done)), H', ⟨by have := HJ3.out; have := HJ20.out; first | omega | exact Nat.le_refl _⟩, ⟨by (with_reducible repeat (first | apply Kd.R_alloc | apply Kd.R_drewN | apply Kd.R_drew)); exact HO_15.out⟩, ⟨by (with_reducible repeat (first | apply Kd.R_alloc | apply Kd.R_drewN | apply Kd.R_drew)); exact HO_17.out⟩, ⟨by (with_reducible repeat (first | apply Kd.R_alloc | apply Kd.R_drewN | apply Kd.R_drew)); exact HO_19.out⟩, ⟨by (with_reducible repeat (first | apply Kd.R_alloc | apply Kd.R_drewN | apply Kd.R_drew)); exact HO_21.out⟩, ⟨by (with_reducible repeat (first | apply Kd.R_alloc | apply Kd.R_drewN | apply Kd.R_drew)); exact HO_23.out⟩, ⟨by (with_reducible repeat (first | apply Kd.R_alloc | apply Kd.R_drewN | apply Kd.R_drew)); exact HO_25.out⟩, ⟨by repeat (first | (with_reducible first | exact HB.out | apply below_alloc | apply pw_below_drewN | apply below_drew1) | exact HB.out)⟩⟩
                        · rw [if_neg c47] at H
                          have c47b0 : ((t232.length : Int) == a0) = false := beq_eq_false_iff_ne.mpr c47
                          have c47b1 : ((t232.length : Int) != a0) = true := bne_iff_ne.mpr c47
                          exact absurd H (stereopsislaw01_WordShifts.j2_not _ _ _ _ _ _ _ _ _ _)
                      · rw [if_neg c46] at H
                        have c46b0 : ((t228.length : Int) == a0) = false := beq_eq_false_iff_ne.mpr c46
                        have c46b1 : ((t228.length : Int) != a0) = true := bne_iff_ne.mpr c46
                        exact absurd H (stereopsislaw01_WordShifts.j2_not _ _ _ _ _ _ _ _ _ _)
                    · rw [if_neg c45] at H
                      have c45b0 : ((t224.length : Int) == a0) = false := beq_eq_false_iff_ne.mpr c45
                      have c45b1 : ((t224.length : Int) != a0) = true := bne_iff_ne.mpr c45
                      exact absurd H (stereopsislaw01_WordShifts.j2_not _ _ _ _ _ _ _ _ _ _)
                  · rw [if_neg c44] at H
                    have c44b0 : ((t220.length : Int) == a0) = false := beq_eq_false_iff_ne.mpr c44
                    have c44b1 : ((t220.length : Int) != a0) = true := bne_iff_ne.mpr c44
                    exact absurd H (stereopsislaw01_WordShifts.j2_not _ _ _ _ _ _ _ _ _ _)
                · rw [if_neg c43] at H
                  have c43b0 : ((t216.length : Int) == a0) = false := beq_eq_false_iff_ne.mpr c43
                  have c43b1 : ((t216.length : Int) != a0) = true := bne_iff_ne.mpr c43
                  (first | rw [c43b0] | (simp only [i64_w, i32_w]; rw [c43b0]) | skip)
                  exact absurd H (stereopsislaw01_WordShifts.j2_not _ _ _ _ _ _ _ _ _ _)
              case rest =>
                clear HC42
                try clear c1
                try clear p2
                try clear c3
                try clear c4
                try clear c5
                try clear c6
                try clear c8
                try clear c9
                try clear c10
                try clear c14
                try clear c16
                try clear c17
                try clear c32
                try clear c33
                try clear c34
                try clear c35
                try clear c35b0
                try clear c35b1
                try clear c36
                try clear c36b0
                try clear c36b1
                try clear c37
                try clear c37b0
                try clear c37b1
                try clear c38
                try clear c38b0
                try clear c38b1
                try clear c39
                try clear c39b0
                try clear c39b1
                try clear c40
                try clear c40b0
                try clear c40b1
                try clear c41
                try clear c43
                try clear c43b0
                try clear c43b1
                try clear c44
                try clear c44b0
                try clear c44b1
                try clear c45
                try clear c45b0
                try clear c45b1
                try clear c46
                try clear c46b0
                try clear c46b1
                try clear c47
                try clear c47b0
                try clear c47b1
                try clear p2
                obtain ⟨kq, x181_41, rfl, HA, HJ41, HO_15, HO_17, HO_19, HO_21, HO_23, HO_25, HB⟩ := hcut
                cases kq with
                | zero => exact absurd HA.out (by simp [stereopsislaw01_WordShifts.j2])
                | succ kj41 =>
                  have H := HA.out
                  clear HA
                  simp only [stereopsislaw01_WordShifts.j2] at H
                  by_cases c54 : x181_41 = true
                  · subst c54
                    have H1 : (some false) = some true := by rw [if_pos rfl] at H; exact H
                    clear H
                    have H := H1
                    clear H1
                    as_aux_lemma =>
                      exact absurd H (by simp)
                  · replace c54 := Bool.eq_false_iff.mpr c54
                    subst c54
                    have H1 : (stereopsislaw01_WordShifts.l0 kj41 a0 a1 a2 t216 t220 t224 t228 t232 t236 0) = some true := by rw [if_neg (show ¬ (false = true) by decide)] at H; exact H
                    clear H
                    have H := H1
                    clear H1
                    have H' := Aside0.mk H
                    clear H
                    go_wp2
                    go_loopg [27] kj41 (fun kq v27 w' => ∃ (x27_4 : Int), v27 = .int .i64 x27_4 ∧ Aside0 (stereopsislaw01_WordShifts.l0 kq a0 a1 a2 t216 t220 t224 t228 t232 t236 x27_4 = some true) ∧ Aside0 (kq ≤ kj41) ∧ Aside0 (Kd.R (Kd.int .i64) 3 w' w.heap.size (fun k_ => some k_ ≠ (v222 : Value).ownBlock ∧ some k_ ≠ (v226 : Value).ownBlock ∧ some k_ ≠ (v230 : Value).ownBlock ∧ some k_ ≠ (v234 : Value).ownBlock ∧ some k_ ≠ (v238 : Value).ownBlock) v218 t216) ∧ Aside0 (Kd.R (Kd.int .i64) 3 w' w.heap.size (fun k_ => some k_ ≠ (v218 : Value).ownBlock ∧ some k_ ≠ (v226 : Value).ownBlock ∧ some k_ ≠ (v230 : Value).ownBlock ∧ some k_ ≠ (v234 : Value).ownBlock ∧ some k_ ≠ (v238 : Value).ownBlock) v222 t220) ∧ Aside0 (Kd.R (Kd.int .i64) 3 w' w.heap.size (fun k_ => some k_ ≠ (v218 : Value).ownBlock ∧ some k_ ≠ (v222 : Value).ownBlock ∧ some k_ ≠ (v230 : Value).ownBlock ∧ some k_ ≠ (v234 : Value).ownBlock ∧ some k_ ≠ (v238 : Value).ownBlock) v226 t224) ∧ Aside0 (Kd.R (Kd.int .i64) 3 w' w.heap.size (fun k_ => some k_ ≠ (v218 : Value).ownBlock ∧ some k_ ≠ (v222 : Value).ownBlock ∧ some k_ ≠ (v226 : Value).ownBlock ∧ some k_ ≠ (v234 : Value).ownBlock ∧ some k_ ≠ (v238 : Value).ownBlock) v230 t228) ∧ Aside0 (Kd.R (Kd.int .i64) 3 w' w.heap.size (fun k_ => some k_ ≠ (v218 : Value).ownBlock ∧ some k_ ≠ (v222 : Value).ownBlock ∧ some k_ ≠ (v226 : Value).ownBlock ∧ some k_ ≠ (v230 : Value).ownBlock ∧ some k_ ≠ (v238 : Value).ownBlock) v234 t232) ∧ Aside0 (Kd.R (Kd.int .i64) 3 w' w.heap.size (fun k_ => some k_ ≠ (v218 : Value).ownBlock ∧ some k_ ≠ (v222 : Value).ownBlock ∧ some k_ ≠ (v226 : Value).ownBlock ∧ some k_ ≠ (v230 : Value).ownBlock ∧ some k_ ≠ (v234 : Value).ownBlock) v238 t236) ∧ Aside0 (Below w.heap.size w w'))
                    case atStart => exact ⟨(0), (by first | rfl | (simp; done) | (simp [*]; done)), H', ⟨Nat.le_refl _⟩, ⟨by (with_reducible repeat (first | apply Kd.R_alloc | apply Kd.R_drewN | apply Kd.R_drew)); exact HO_15.out⟩, ⟨by (with_reducible repeat (first | apply Kd.R_alloc | apply Kd.R_drewN | apply Kd.R_drew)); exact HO_17.out⟩, ⟨by (with_reducible repeat (first | apply Kd.R_alloc | apply Kd.R_drewN | apply Kd.R_drew)); exact HO_19.out⟩, ⟨by (with_reducible repeat (first | apply Kd.R_alloc | apply Kd.R_drewN | apply Kd.R_drew)); exact HO_21.out⟩, ⟨by (with_reducible repeat (first | apply Kd.R_alloc | apply Kd.R_drewN | apply Kd.R_drew)); exact HO_23.out⟩, ⟨by (with_reducible repeat (first | apply Kd.R_alloc | apply Kd.R_drewN | apply Kd.R_drew)); exact HO_25.out⟩, ⟨by repeat (first | (with_reducible first | exact HB.out | apply below_alloc | apply pw_below_drewN | apply below_drew1) | exact HB.out)⟩⟩
                    case round =>
                      clear H'
                      try clear c1
                      try clear p2
                      try clear c3
                      try clear c4
                      try clear c5
                      try clear c6
                      try clear c8
                      try clear c9
                      try clear c10
                      try clear c14
                      try clear c16
                      try clear c17
                      try clear c32
                      try clear c33
                      try clear c34
                      try clear c35
                      try clear c35b0
                      try clear c35b1
                      try clear c36
                      try clear c36b0
                      try clear c36b1
                      try clear c37
                      try clear c37b0
                      try clear c37b1
                      try clear c38
                      try clear c38b0
                      try clear c38b1
                      try clear c39
                      try clear c39b0
                      try clear c39b1
                      try clear c40
                      try clear c40b0
                      try clear c40b1
                      try clear c41
                      try clear c43
                      try clear c43b0
                      try clear c43b1
                      try clear c44
                      try clear c44b0
                      try clear c44b1
                      try clear c45
                      try clear c45b0
                      try clear c45b1
                      try clear c46
                      try clear c46b0
                      try clear c46b1
                      try clear c47
                      try clear c47b0
                      try clear c47b1
                      try clear c54
                      try clear p2
                      obtain ⟨x27_4, rfl, HA, HK4, HO_15, HO_17, HO_19, HO_21, HO_23, HO_25, HB⟩ := hrel
                      cases gk with
                      | zero => exact absurd HA.out (by simp [stereopsislaw01_WordShifts.l0])
                      | succ k4 =>
                        have H := HA.out
                        clear HA
                        simp only [stereopsislaw01_WordShifts.l0] at H
                        by_cases c55 : x27_4 < a0
                        · rw [if_pos c55] at H
                          have c55b0 : decide (x27_4 < a0) = true := decide_eq_true c55
                          clear c55
                          by_cases c56 : 0 ≤ x27_4
                          · rw [if_pos c56] at H
                            have c56b0 : decide (0 ≤ x27_4) = true := decide_eq_true c56
                            clear c56
                            by_cases c57 : x27_4 < (t224.length : Int)
                            · rw [if_pos c57] at H
                              have c57b0 : decide (x27_4 < (t224.length : Int)) = true := decide_eq_true c57
                              clear c57
                              by_cases c58 : x27_4 < (t216.length : Int)
                              · rw [if_pos c58] at H
                                have c58b0 : decide (x27_4 < (t216.length : Int)) = true := decide_eq_true c58
                                clear c58
                                by_cases c59 : x27_4 < (t220.length : Int)
                                · rw [if_pos c59] at H
                                  have c59b0 : decide (x27_4 < (t220.length : Int)) = true := decide_eq_true c59
                                  clear c59
                                  by_cases c60 : (rd t224 x27_4) = (wrap64 ((rd t216 x27_4) * (rd t220 x27_4)))
                                  · rw [if_pos c60] at H
                                    have c60b0 : ((rd t224 x27_4) == (wrap64 ((rd t216 x27_4) * (rd t220 x27_4)))) = true := beq_iff_eq.mpr c60
                                    have c60b1 : ((rd t224 x27_4) != (wrap64 ((rd t216 x27_4) * (rd t220 x27_4)))) = false := bne_eq_false_iff_eq.mpr c60
                                    clear c60
                                    by_cases c61 : x27_4 < (t228.length : Int)
                                    · rw [if_pos c61] at H
                                      have c61b0 : decide (x27_4 < (t228.length : Int)) = true := decide_eq_true c61
                                      clear c61
                                      obtain ⟨ji62, hji62⟩ : ∃ j_ : Int, (mx (rd t216 x27_4) (rd t220 x27_4)) = j_ := ⟨_, rfl⟩
                                      replace H : (if (rd t228 x27_4) = (ji62) then (if x27_4 < (t232.length : Int) then ((stereopsisref01_One.f ((rd t216 x27_4) != (rd t220 x27_4))).bind fun t249 => (if (rd t232 x27_4) = t249 then (if x27_4 < (t236.length : Int) then (if (rd t236 x27_4) = (wrap64 (1 - (rd t216 x27_4))) then (stereopsislaw01_WordShifts.l0 k4 a0 a1 a2 t216 t220 t224 t228 t232 t236 (wrap64 (x27_4 + 1))) else (some false)) else (none)) else (some false))) else (none)) else (some false)) = some true := by first | (rw [hji62] at H; exact H) | (simp only [hji62] at H ⊢; exact H)
                                      have hji62_ : (if (rd t216 x27_4) < (rd t220 x27_4) then (rd t220 x27_4) else (rd t216 x27_4)) = ji62 := hji62
                                      by_cases c63 : (rd t228 x27_4) = (ji62)
                                      · rw [if_pos c63] at H
                                        have c63b0 : ((rd t228 x27_4) == (ji62)) = true := beq_iff_eq.mpr c63
                                        have c63b1 : ((rd t228 x27_4) != (ji62)) = false := bne_eq_false_iff_eq.mpr c63
                                        clear c63
                                        by_cases c64 : x27_4 < (t232.length : Int)
                                        · rw [if_pos c64] at H
                                          have c64b0 : decide (x27_4 < (t232.length : Int)) = true := decide_eq_true c64
                                          clear c64
                                          replace H := Option.bind_eq_some_iff.mp H
                                          obtain ⟨t249, A650, H⟩ := H
                                          replace H : (if (rd t232 x27_4) = t249 then (if x27_4 < (t236.length : Int) then (if (rd t236 x27_4) = (wrap64 (1 - (rd t216 x27_4))) then (stereopsislaw01_WordShifts.l0 k4 a0 a1 a2 t216 t220 t224 t228 t232 t236 (wrap64 (x27_4 + 1))) else (some false)) else (none)) else (some false)) = some true := H
                                          have A65 := Aside0.mk A650
                                          clear A650
                                          by_cases c66 : (rd t232 x27_4) = t249
                                          · rw [if_pos c66] at H
                                            have c66b0 : ((rd t232 x27_4) == t249) = true := beq_iff_eq.mpr c66
                                            have c66b1 : ((rd t232 x27_4) != t249) = false := bne_eq_false_iff_eq.mpr c66
                                            clear c66
                                            by_cases c67 : x27_4 < (t236.length : Int)
                                            · rw [if_pos c67] at H
                                              have c67b0 : decide (x27_4 < (t236.length : Int)) = true := decide_eq_true c67
                                              clear c67
                                              by_cases c68 : (rd t236 x27_4) = (wrap64 (1 - (rd t216 x27_4)))
                                              · rw [if_pos c68] at H
                                                have c68b0 : ((rd t236 x27_4) == (wrap64 (1 - (rd t216 x27_4)))) = true := beq_iff_eq.mpr c68
                                                have c68b1 : ((rd t236 x27_4) != (wrap64 (1 - (rd t216 x27_4)))) = false := bne_eq_false_iff_eq.mpr c68
                                                clear c68
                                                as_aux_lemma =>
                                                  have H' := Aside0.mk H
                                                  clear H
                                                  try go_wp2
                                                  have n0_ := Aside0.mk (Kd.R_drew HO_15.out)
                                                  have n1_ := Aside0.mk (Kd.R_drew HO_17.out)
                                                  have n2_ := Aside0.mk (Kd.R_drew HO_19.out)
                                                  have n3_ := Aside0.mk (Kd.R_drew HO_21.out)
                                                  have n4_ := Aside0.mk (Kd.R_drew HO_23.out)
                                                  have n5_ := Aside0.mk (Kd.R_drew HO_25.out)
                                                  have n6_ := Aside0.mk (below_drew1 HB.out)
                                                  clear HO_15
                                                  clear HO_17
                                                  clear HO_19
                                                  clear HO_21
                                                  clear HO_23
                                                  clear HO_25
                                                  clear HB
                                                  have HO_15 := n0_
                                                  have HO_17 := n1_
                                                  have HO_19 := n2_
                                                  have HO_21 := n3_
                                                  have HO_23 := n4_
                                                  have HO_25 := n5_
                                                  have HB := n6_
                                                  clear n0_ n1_ n2_ n3_ n4_ n5_ n6_
                                                  obtain ⟨Ao70, co70, eo70⟩ := Kd.R_slice HO_19.out
                                                  (first | subst eo70 | (injection eo70 with f1_ f2_ f3_; have f4_ := f1_.symm; have f5_ := f3_.symm; clear f1_ f2_ f3_; subst f4_; subst f5_))
                                                  have p240 : 0 ≤ (x27_4 : Int) := of_decide_eq_true (by first | (with_reducible assumption) | assumption)
                                                  have q240 : x27_4 < (t224.length : Int) := of_decide_eq_true (by first | (with_reducible assumption) | assumption)
                                                  obtain ⟨ad240, e240, hx240_0⟩ := Kd.at_int (Kd.R_reads' HO_19.out).2.2 x27_4 p240 q240
                                                  cases e240
                                                  replace p240 := eq_true p240
                                                  replace q240 := eq_true q240
                                                  obtain ⟨Ao71, co71, eo71⟩ := Kd.R_slice HO_15.out
                                                  (first | subst eo71 | (injection eo71 with f1_ f2_ f3_; have f4_ := f1_.symm; have f5_ := f3_.symm; clear f1_ f2_ f3_; subst f4_; subst f5_))
                                                  have p241 : 0 ≤ (x27_4 : Int) := of_decide_eq_true (by first | (with_reducible assumption) | assumption)
                                                  have q241 : x27_4 < (t216.length : Int) := of_decide_eq_true (by first | (with_reducible assumption) | assumption)
                                                  obtain ⟨ad241, e241, hx241_0⟩ := Kd.at_int (Kd.R_reads' HO_15.out).2.2 x27_4 p241 q241
                                                  cases e241
                                                  replace p241 := eq_true p241
                                                  replace q241 := eq_true q241
                                                  obtain ⟨Ao72, co72, eo72⟩ := Kd.R_slice HO_17.out
                                                  (first | subst eo72 | (injection eo72 with f1_ f2_ f3_; have f4_ := f1_.symm; have f5_ := f3_.symm; clear f1_ f2_ f3_; subst f4_; subst f5_))
                                                  have p242 : 0 ≤ (x27_4 : Int) := of_decide_eq_true (by first | (with_reducible assumption) | assumption)
                                                  have q242 : x27_4 < (t220.length : Int) := of_decide_eq_true (by first | (with_reducible assumption) | assumption)
                                                  obtain ⟨ad242, e242, hx242_0⟩ := Kd.at_int (Kd.R_reads' HO_17.out).2.2 x27_4 p242 q242
                                                  cases e242
                                                  replace p242 := eq_true p242
                                                  replace q242 := eq_true q242
                                                  obtain ⟨Ao73, co73, eo73⟩ := Kd.R_slice HO_21.out
                                                  (first | subst eo73 | (injection eo73 with f1_ f2_ f3_; have f4_ := f1_.symm; have f5_ := f3_.symm; clear f1_ f2_ f3_; subst f4_; subst f5_))
                                                  have p243 : 0 ≤ (x27_4 : Int) := of_decide_eq_true (by first | (with_reducible assumption) | assumption)
                                                  have q243 : x27_4 < (t228.length : Int) := of_decide_eq_true (by first | (with_reducible assumption) | assumption)
                                                  obtain ⟨ad243, e243, hx243_0⟩ := Kd.at_int (Kd.R_reads' HO_21.out).2.2 x27_4 p243 q243
                                                  cases e243
                                                  replace p243 := eq_true p243
                                                  replace q243 := eq_true q243
                                                  have p244 : 0 ≤ (x27_4 : Int) := of_decide_eq_true (by first | (with_reducible assumption) | assumption)
                                                  have q244 : x27_4 < (t216.length : Int) := of_decide_eq_true (by first | (with_reducible assumption) | assumption)
                                                  obtain ⟨ad244, e244, hx244_0⟩ := Kd.at_int (Kd.R_reads' HO_15.out).2.2 x27_4 p244 q244
                                                  obtain rfl : ad241 = ad244 := (by injection e244)
                                                  replace p244 := eq_true p244
                                                  replace q244 := eq_true q244
                                                  have p245 : 0 ≤ (x27_4 : Int) := of_decide_eq_true (by first | (with_reducible assumption) | assumption)
                                                  have q245 : x27_4 < (t220.length : Int) := of_decide_eq_true (by first | (with_reducible assumption) | assumption)
                                                  obtain ⟨ad245, e245, hx245_0⟩ := Kd.at_int (Kd.R_reads' HO_17.out).2.2 x27_4 p245 q245
                                                  obtain rfl : ad242 = ad245 := (by injection e245)
                                                  replace p245 := eq_true p245
                                                  replace q245 := eq_true q245
                                                  obtain ⟨Ao74, co74, eo74⟩ := Kd.R_slice HO_23.out
                                                  (first | subst eo74 | (injection eo74 with f1_ f2_ f3_; have f4_ := f1_.symm; have f5_ := f3_.symm; clear f1_ f2_ f3_; subst f4_; subst f5_))
                                                  have p246 : 0 ≤ (x27_4 : Int) := of_decide_eq_true (by first | (with_reducible assumption) | assumption)
                                                  have q246 : x27_4 < (t232.length : Int) := of_decide_eq_true (by first | (with_reducible assumption) | assumption)
                                                  obtain ⟨ad246, e246, hx246_0⟩ := Kd.at_int (Kd.R_reads' HO_23.out).2.2 x27_4 p246 q246
                                                  cases e246
                                                  replace p246 := eq_true p246
                                                  replace q246 := eq_true q246
                                                  have p247 : 0 ≤ (x27_4 : Int) := of_decide_eq_true (by first | (with_reducible assumption) | assumption)
                                                  have q247 : x27_4 < (t216.length : Int) := of_decide_eq_true (by first | (with_reducible assumption) | assumption)
                                                  obtain ⟨ad247, e247, hx247_0⟩ := Kd.at_int (Kd.R_reads' HO_15.out).2.2 x27_4 p247 q247
                                                  obtain rfl : ad241 = ad247 := (by injection e247)
                                                  replace p247 := eq_true p247
                                                  replace q247 := eq_true q247
                                                  have p248 : 0 ≤ (x27_4 : Int) := of_decide_eq_true (by first | (with_reducible assumption) | assumption)
                                                  have q248 : x27_4 < (t220.length : Int) := of_decide_eq_true (by first | (with_reducible assumption) | assumption)
                                                  obtain ⟨ad248, e248, hx248_0⟩ := Kd.at_int (Kd.R_reads' HO_17.out).2.2 x27_4 p248 q248
                                                  obtain rfl : ad242 = ad248 := (by injection e248)
                                                  replace p248 := eq_true p248
                                                  replace q248 := eq_true q248
                                                  have p250 : 0 ≤ (x27_4 : Int) := of_decide_eq_true (by first | (with_reducible assumption) | assumption)
                                                  have q250 : x27_4 < (t236.length : Int) := of_decide_eq_true (by first | (with_reducible assumption) | assumption)
                                                  obtain ⟨Ao250, co250, eo250⟩ := Kd.R_slice HO_25.out
                                                  subst eo250
                                                  obtain ⟨ad250, e250, hx250_0⟩ := Kd.at_int (Kd.R_reads' HO_25.out).2.2 x27_4 p250 q250
                                                  cases e250
                                                  replace p250 := eq_true p250
                                                  replace q250 := eq_true q250
                                                  have p251 : 0 ≤ (x27_4 : Int) := of_decide_eq_true (by first | (with_reducible assumption) | assumption)
                                                  have q251 : x27_4 < (t216.length : Int) := of_decide_eq_true (by first | (with_reducible assumption) | assumption)
                                                  obtain ⟨ad251, e251, hx251_0⟩ := Kd.at_int (Kd.R_reads' HO_15.out).2.2 x27_4 p251 q251
                                                  obtain rfl : ad241 = ad251 := (by injection e251)
                                                  replace p251 := eq_true p251
                                                  replace q251 := eq_true q251
                                                  refine start_ (n := 59) (S := fun w' => w'.cell? (ad240.add (x27_4).toNat) = some (.int .i64 (rd t224 x27_4)) ∧ w'.cell? (ad241.add (x27_4).toNat) = some (.int .i64 (rd t216 x27_4)) ∧ w'.cell? (ad242.add (x27_4).toNat) = some (.int .i64 (rd t220 x27_4)) ∧ w'.cell? (ad243.add (x27_4).toNat) = some (.int .i64 (rd t228 x27_4)) ∧ w'.cell? (ad241.add (x27_4).toNat) = some (.int .i64 (rd t216 x27_4)) ∧ w'.cell? (ad242.add (x27_4).toNat) = some (.int .i64 (rd t220 x27_4)) ∧ w'.cell? (ad246.add (x27_4).toNat) = some (.int .i64 (rd t232 x27_4)) ∧ w'.cell? (ad241.add (x27_4).toNat) = some (.int .i64 (rd t216 x27_4)) ∧ w'.cell? (ad242.add (x27_4).toNat) = some (.int .i64 (rd t220 x27_4)) ∧ w'.cell? (ad250.add (x27_4).toNat) = some (.int .i64 (rd t236 x27_4)) ∧ w'.cell? (ad241.add (x27_4).toNat) = some (.int .i64 (rd t216 x27_4))) (ds := []) #[false, false, false, false, false, false, false, false, false, false, false, false, false, false, false, false, false, false, false, false, false, false, false, false, false, false, false, false, false, false, false, false, false, false, false, false, false, false, false, false, false, false, false, false, false, false, false, false, false, false, false, false, false, false, false, false, false, false, false] (by kernel_rfl) rfl rfl ⟨hx240_0, hx241_0, hx242_0, hx243_0, hx244_0, hx245_0, hx246_0, hx247_0, hx248_0, hx250_0, hx251_0⟩ (fun hHeld => ?_); refine with_tabW stereopsislaw01_WordShifts.tab20 stereopsislaw01_WordShifts.bits20 (fun HT_ HW_ => ?_)
                                                  generalize wr.drew = w69 at HO_15 HO_17 HO_19 HO_21 HO_23 HO_25 HB hx240_0 hx241_0 hx242_0 hx243_0 hx244_0 hx245_0 hx246_0 hx247_0 hx248_0 hx250_0 hx251_0 hHeld ⊢
                                                  refine pure_ (i := 0) (N := some 187) (v := ?_) (a' := ?_) #[true, false, false, false, false, false, false, false, false, false, false, false, false, false, false, false, false, false, false, false, false, false, false, false, false, false, false, false, false, false, false, false, false, false, false, false, false, false, false, false, false, false, false, false, false, false, false, false, false, false, false, false, false, false, false, false, false, false, false] rfl rfl (any_of HT_.out (by kernel_rfl)) (fun _ _ _ h => h) (Or.inl ⟨by rfl, ?_⟩) ?_ ?_
                                                  rotate_left
                                                  · intro w'
                                                    go_simp
                                                    with_reducible rfl
                                                  rotate_left
                                                  · simp only [Act.put, List.setIfInBounds_toArray, List.set_cons_zero, List.set_cons_succ, i64_w, i32_w]
                                                    rfl
                                                  refine pure_ (i := 1) (N := some 188) (v := ?_) (a' := ?_) #[true, true, false, false, false, false, false, false, false, false, false, false, false, false, false, false, false, false, false, false, false, false, false, false, false, false, false, false, false, false, false, false, false, false, false, false, false, false, false, false, false, false, false, false, false, false, false, false, false, false, false, false, false, false, false, false, false, false, false] rfl rfl (any_of HT_.out (by kernel_rfl)) (fun _ _ _ h => h) (Or.inl ⟨by rfl, ?_⟩) ?_ ?_
                                                  rotate_left
                                                  · intro w'
                                                    go_simp
                                                    with_reducible rfl
                                                  rotate_left
                                                  · simp only [Act.put, List.setIfInBounds_toArray, List.set_cons_zero, List.set_cons_succ, i64_w, i32_w]
                                                    rfl
                                                  refine pure_ (i := 2) (N := some 189) (v := ?_) (a' := ?_) #[true, true, true, false, false, false, false, false, false, false, false, false, false, false, false, false, false, false, false, false, false, false, false, false, false, false, false, false, false, false, false, false, false, false, false, false, false, false, false, false, false, false, false, false, false, false, false, false, false, false, false, false, false, false, false, false, false, false, false] rfl rfl (any_of HT_.out (by kernel_rfl)) (fun _ _ _ h => h) (Or.inl ⟨by rfl, ?_⟩) ?_ ?_
                                                  rotate_left
                                                  · intro w'
                                                    go_simp
                                                    with_reducible rfl
                                                  rotate_left
                                                  · simp only [Act.put, List.setIfInBounds_toArray, List.set_cons_zero, List.set_cons_succ, i64_w, i32_w]
                                                    rfl
                                                  refine pure_ (i := 4) (N := some 191) (v := ?_) (a' := ?_) #[true, true, true, false, true, false, false, false, false, false, false, false, false, false, false, false, false, false, false, false, false, false, false, false, false, false, false, false, false, false, false, false, false, false, false, false, false, false, false, false, false, false, false, false, false, false, false, false, false, false, false, false, false, false, false, false, false, false, false] rfl rfl (any_of HT_.out (by kernel_rfl)) (fun _ _ _ h => h) (Or.inl ⟨by rfl, ?_⟩) ?_ ?_
                                                  rotate_left
                                                  · intro w'
                                                    go_simp
                                                    with_reducible rfl
                                                  rotate_left
                                                  · simp only [Act.put, List.setIfInBounds_toArray, List.set_cons_zero, List.set_cons_succ, i64_w, i32_w]
                                                    rfl
                                                  refine pure_ (i := 5) (N := some 192) (v := ?_) (a' := ?_) #[true, true, true, false, true, true, false, false, false, false, false, false, false, false, false, false, false, false, false, false, false, false, false, false, false, false, false, false, false, false, false, false, false, false, false, false, false, false, false, false, false, false, false, false, false, false, false, false, false, false, false, false, false, false, false, false, false, false, false] rfl rfl (any_of HT_.out (by kernel_rfl)) (fun _ _ _ h => h) (Or.inl ⟨by rfl, ?_⟩) ?_ ?_
                                                  rotate_left
                                                  · intro w'
                                                    go_simp
                                                    with_reducible rfl
                                                  rotate_left
                                                  · simp only [Act.put, List.setIfInBounds_toArray, List.set_cons_zero, List.set_cons_succ, i64_w, i32_w]
                                                    rfl
                                                  refine pure_ (i := 6) (N := some 193) (v := ?_) (a' := ?_) #[true, true, true, false, true, true, true, false, false, false, false, false, false, false, false, false, false, false, false, false, false, false, false, false, false, false, false, false, false, false, false, false, false, false, false, false, false, false, false, false, false, false, false, false, false, false, false, false, false, false, false, false, false, false, false, false, false, false, false] rfl rfl (any_of HT_.out (by kernel_rfl)) (fun _ _ _ h => h) (Or.inl ⟨by rfl, ?_⟩) ?_ ?_
                                                  rotate_left
                                                  · intro w'
                                                    go_simp
                                                    with_reducible rfl
                                                  rotate_left
                                                  · simp only [Act.put, List.setIfInBounds_toArray, List.set_cons_zero, List.set_cons_succ, i64_w, i32_w]
                                                    rfl
                                                  refine pure_ (i := 8) (N := some 195) (v := ?_) (a' := ?_) #[true, true, true, false, true, true, true, false, true, false, false, false, false, false, false, false, false, false, false, false, false, false, false, false, false, false, false, false, false, false, false, false, false, false, false, false, false, false, false, false, false, false, false, false, false, false, false, false, false, false, false, false, false, false, false, false, false, false, false] rfl rfl (any_of HT_.out (by kernel_rfl)) (fun _ _ _ h => h) (Or.inl ⟨by rfl, ?_⟩) ?_ ?_
                                                  rotate_left
                                                  · intro w'
                                                    go_simp
                                                    with_reducible rfl
                                                  rotate_left
                                                  · simp only [Act.put, List.setIfInBounds_toArray, List.set_cons_zero, List.set_cons_succ, i64_w, i32_w]
                                                    rfl
                                                  refine pure_ (i := 9) (N := some 196) (v := ?_) (a' := ?_) #[true, true, true, false, true, true, true, false, true, true, false, false, false, false, false, false, false, false, false, false, false, false, false, false, false, false, false, false, false, false, false, false, false, false, false, false, false, false, false, false, false, false, false, false, false, false, false, false, false, false, false, false, false, false, false, false, false, false, false] rfl rfl (any_of HT_.out (by kernel_rfl)) (fun _ _ _ h => h) (Or.inl ⟨by rfl, ?_⟩) ?_ ?_
                                                  rotate_left
                                                  · intro w'
                                                    go_simp
                                                    with_reducible rfl
                                                  rotate_left
                                                  · simp only [Act.put, List.setIfInBounds_toArray, List.set_cons_zero, List.set_cons_succ, i64_w, i32_w]
                                                    rfl
                                                  refine pure_ (i := 10) (N := some 197) (v := ?_) (a' := ?_) #[true, true, true, false, true, true, true, false, true, true, true, false, false, false, false, false, false, false, false, false, false, false, false, false, false, false, false, false, false, false, false, false, false, false, false, false, false, false, false, false, false, false, false, false, false, false, false, false, false, false, false, false, false, false, false, false, false, false, false] rfl rfl (any_of HT_.out (by kernel_rfl)) (fun _ _ _ h => h) (Or.inl ⟨by rfl, ?_⟩) ?_ ?_
                                                  rotate_left
                                                  · intro w'
                                                    go_simp
                                                    with_reducible rfl
                                                  rotate_left
                                                  · simp only [Act.put, List.setIfInBounds_toArray, List.set_cons_zero, List.set_cons_succ, i64_w, i32_w]
                                                    rfl
                                                  refine take_ (i := 3) (N := some 190) (v := ?_) (a' := ?_) #[true, true, true, true, true, true, true, false, true, true, true, false, false, false, false, false, false, false, false, false, false, false, false, false, false, false, false, false, false, false, false, false, false, false, false, false, false, false, false, false, false, false, false, false, false, false, false, false, false, false, false, false, false, false, false, false, false, false, false] rfl rfl (take_ofW HT_.out HW_.out (by kernel_rfl)) (fun _ _ _ h => h) (Or.inl ⟨by rfl, ?_⟩) hHeld ?_ ?_
                                                  rotate_left
                                                  · rintro w' ⟨s0, s1, s2, s3, s4, s5, s6, s7, s8, s9, s10⟩
                                                    go_simp
                                                    with_reducible rfl
                                                  rotate_left
                                                  · simp only [Act.put, List.setIfInBounds_toArray, List.set_cons_zero, List.set_cons_succ, i64_w, i32_w]
                                                    rfl
                                                  refine take_ (i := 7) (N := some 194) (v := ?_) (a' := ?_) #[true, true, true, true, true, true, true, true, true, true, true, false, false, false, false, false, false, false, false, false, false, false, false, false, false, false, false, false, false, false, false, false, false, false, false, false, false, false, false, false, false, false, false, false, false, false, false, false, false, false, false, false, false, false, false, false, false, false, false] rfl rfl (take_ofW HT_.out HW_.out (by kernel_rfl)) (fun _ _ _ h => h) (Or.inl ⟨by rfl, ?_⟩) hHeld ?_ ?_
                                                  rotate_left
                                                  · rintro w' ⟨s0, s1, s2, s3, s4, s5, s6, s7, s8, s9, s10⟩
                                                    go_simp
                                                    with_reducible rfl
                                                  rotate_left
                                                  · simp only [Act.put, List.setIfInBounds_toArray, List.set_cons_zero, List.set_cons_succ, i64_w, i32_w]
                                                    rfl
                                                  refine take_ (i := 11) (N := some 198) (v := ?_) (a' := ?_) #[true, true, true, true, true, true, true, true, true, true, true, true, false, false, false, false, false, false, false, false, false, false, false, false, false, false, false, false, false, false, false, false, false, false, false, false, false, false, false, false, false, false, false, false, false, false, false, false, false, false, false, false, false, false, false, false, false, false, false] rfl rfl (take_ofW HT_.out HW_.out (by kernel_rfl)) (fun _ _ _ h => h) (Or.inl ⟨by rfl, ?_⟩) hHeld ?_ ?_
                                                  rotate_left
                                                  · rintro w' ⟨s0, s1, s2, s3, s4, s5, s6, s7, s8, s9, s10⟩
                                                    go_simp
                                                    with_reducible rfl
                                                  rotate_left
                                                  · simp only [Act.put, List.setIfInBounds_toArray, List.set_cons_zero, List.set_cons_succ, i64_w, i32_w]
                                                    rfl
                                                  refine pure_ (i := 12) (N := some 199) (v := ?_) (a' := ?_) #[true, true, true, true, true, true, true, true, true, true, true, true, true, false, false, false, false, false, false, false, false, false, false, false, false, false, false, false, false, false, false, false, false, false, false, false, false, false, false, false, false, false, false, false, false, false, false, false, false, false, false, false, false, false, false, false, false, false, false] rfl rfl (any_of HT_.out (by kernel_rfl)) (fun _ _ _ h => h) (Or.inl ⟨by rfl, ?_⟩) ?_ ?_
                                                  rotate_left
                                                  · intro w'
                                                    go_simp
                                                    with_reducible rfl
                                                  rotate_left
                                                  · simp only [Act.put, List.setIfInBounds_toArray, List.set_cons_zero, List.set_cons_succ, i64_w, i32_w]
                                                    rfl
                                                  refine pure_ (i := 13) (N := some 200) (v := ?_) (a' := ?_) #[true, true, true, true, true, true, true, true, true, true, true, true, true, true, false, false, false, false, false, false, false, false, false, false, false, false, false, false, false, false, false, false, false, false, false, false, false, false, false, false, false, false, false, false, false, false, false, false, false, false, false, false, false, false, false, false, false, false, false] rfl rfl (any_of HT_.out (by kernel_rfl)) (fun _ _ _ h => h) (Or.inl ⟨by rfl, ?_⟩) ?_ ?_
                                                  rotate_left
                                                  · intro w'
                                                    go_simp
                                                    with_reducible rfl
                                                  rotate_left
                                                  · simp only [Act.put, List.setIfInBounds_toArray, List.set_cons_zero, List.set_cons_succ, i64_w, i32_w]
                                                    rfl
                                                  refine pure_ (i := 14) (N := some 201) (v := ?_) (a' := ?_) #[true, true, true, true, true, true, true, true, true, true, true, true, true, true, true, false, false, false, false, false, false, false, false, false, false, false, false, false, false, false, false, false, false, false, false, false, false, false, false, false, false, false, false, false, false, false, false, false, false, false, false, false, false, false, false, false, false, false, false] rfl rfl (any_of HT_.out (by kernel_rfl)) (fun _ _ _ h => h) (Or.inl ⟨by rfl, ?_⟩) ?_ ?_
                                                  rotate_left
                                                  · intro w'
                                                    go_simp
                                                    with_reducible rfl
                                                  rotate_left
                                                  · simp only [Act.put, List.setIfInBounds_toArray, List.set_cons_zero, List.set_cons_succ, i64_w, i32_w]
                                                    rfl
                                                  refine pure_ (i := 15) (N := some 202) (v := ?_) (a' := ?_) #[true, true, true, true, true, true, true, true, true, true, true, true, true, true, true, true, false, false, false, false, false, false, false, false, false, false, false, false, false, false, false, false, false, false, false, false, false, false, false, false, false, false, false, false, false, false, false, false, false, false, false, false, false, false, false, false, false, false, false] rfl rfl (any_of HT_.out (by kernel_rfl)) (fun _ _ _ h => h) (Or.inl ⟨by rfl, ?_⟩) ?_ ?_
                                                  rotate_left
                                                  · intro w'
                                                    go_simp
                                                    with_reducible rfl
                                                  rotate_left
                                                  · simp only [Act.put, List.setIfInBounds_toArray, List.set_cons_zero, List.set_cons_succ, i64_w, i32_w]
                                                    rfl
                                                  refine pure_ (i := 16) (N := some 203) (v := ?_) (a' := ?_) #[true, true, true, true, true, true, true, true, true, true, true, true, true, true, true, true, true, false, false, false, false, false, false, false, false, false, false, false, false, false, false, false, false, false, false, false, false, false, false, false, false, false, false, false, false, false, false, false, false, false, false, false, false, false, false, false, false, false, false] rfl rfl (any_of HT_.out (by kernel_rfl)) (fun _ _ _ h => h) (Or.inl ⟨by rfl, ?_⟩) ?_ ?_
                                                  rotate_left
                                                  · intro w'
                                                    go_simp
                                                    with_reducible rfl
                                                  rotate_left
                                                  · simp only [Act.put, List.setIfInBounds_toArray, List.set_cons_zero, List.set_cons_succ, i64_w, i32_w]
                                                    rfl
                                                  refine pure_ (i := 17) (N := some 204) (v := ?_) (a' := ?_) #[true, true, true, true, true, true, true, true, true, true, true, true, true, true, true, true, true, true, false, false, false, false, false, false, false, false, false, false, false, false, false, false, false, false, false, false, false, false, false, false, false, false, false, false, false, false, false, false, false, false, false, false, false, false, false, false, false, false, false] rfl rfl (any_of HT_.out (by kernel_rfl)) (fun _ _ _ h => h) (Or.inl ⟨by rfl, ?_⟩) ?_ ?_
                                                  rotate_left
                                                  · intro w'
                                                    go_simp
                                                    with_reducible rfl
                                                  rotate_left
                                                  · simp only [Act.put, List.setIfInBounds_toArray, List.set_cons_zero, List.set_cons_succ, i64_w, i32_w]
                                                    rfl
                                                  refine pure_ (i := 19) (N := some 206) (v := ?_) (a' := ?_) #[true, true, true, true, true, true, true, true, true, true, true, true, true, true, true, true, true, true, false, true, false, false, false, false, false, false, false, false, false, false, false, false, false, false, false, false, false, false, false, false, false, false, false, false, false, false, false, false, false, false, false, false, false, false, false, false, false, false, false] rfl rfl (any_of HT_.out (by kernel_rfl)) (fun _ _ _ h => h) (Or.inl ⟨by rfl, ?_⟩) ?_ ?_
                                                  rotate_left
                                                  · intro w'
                                                    go_simp
                                                    with_reducible rfl
                                                  rotate_left
                                                  · simp only [Act.put, List.setIfInBounds_toArray, List.set_cons_zero, List.set_cons_succ, i64_w, i32_w]
                                                    rfl
                                                  refine pure_ (i := 20) (N := some 207) (v := ?_) (a' := ?_) #[true, true, true, true, true, true, true, true, true, true, true, true, true, true, true, true, true, true, false, true, true, false, false, false, false, false, false, false, false, false, false, false, false, false, false, false, false, false, false, false, false, false, false, false, false, false, false, false, false, false, false, false, false, false, false, false, false, false, false] rfl rfl (any_of HT_.out (by kernel_rfl)) (fun _ _ _ h => h) (Or.inl ⟨by rfl, ?_⟩) ?_ ?_
                                                  rotate_left
                                                  · intro w'
                                                    go_simp
                                                    with_reducible rfl
                                                  rotate_left
                                                  · simp only [Act.put, List.setIfInBounds_toArray, List.set_cons_zero, List.set_cons_succ, i64_w, i32_w]
                                                    rfl
                                                  refine pure_ (i := 21) (N := some 208) (v := ?_) (a' := ?_) #[true, true, true, true, true, true, true, true, true, true, true, true, true, true, true, true, true, true, false, true, true, true, false, false, false, false, false, false, false, false, false, false, false, false, false, false, false, false, false, false, false, false, false, false, false, false, false, false, false, false, false, false, false, false, false, false, false, false, false] rfl rfl (any_of HT_.out (by kernel_rfl)) (fun _ _ _ h => h) (Or.inl ⟨by rfl, ?_⟩) ?_ ?_
                                                  rotate_left
                                                  · intro w'
                                                    go_simp
                                                    with_reducible rfl
                                                  rotate_left
                                                  · simp only [Act.put, List.setIfInBounds_toArray, List.set_cons_zero, List.set_cons_succ, i64_w, i32_w]
                                                    rfl
                                                  refine pure_ (i := 23) (N := some 210) (v := ?_) (a' := ?_) #[true, true, true, true, true, true, true, true, true, true, true, true, true, true, true, true, true, true, false, true, true, true, false, true, false, false, false, false, false, false, false, false, false, false, false, false, false, false, false, false, false, false, false, false, false, false, false, false, false, false, false, false, false, false, false, false, false, false, false] rfl rfl (any_of HT_.out (by kernel_rfl)) (fun _ _ _ h => h) (Or.inl ⟨by rfl, ?_⟩) ?_ ?_
                                                  rotate_left
                                                  · intro w'
                                                    go_simp
                                                    with_reducible rfl
                                                  rotate_left
                                                  · simp only [Act.put, List.setIfInBounds_toArray, List.set_cons_zero, List.set_cons_succ, i64_w, i32_w]
                                                    rfl
                                                  refine pure_ (i := 24) (N := some 211) (v := ?_) (a' := ?_) #[true, true, true, true, true, true, true, true, true, true, true, true, true, true, true, true, true, true, false, true, true, true, false, true, true, false, false, false, false, false, false, false, false, false, false, false, false, false, false, false, false, false, false, false, false, false, false, false, false, false, false, false, false, false, false, false, false, false, false] rfl rfl (any_of HT_.out (by kernel_rfl)) (fun _ _ _ h => h) (Or.inl ⟨by rfl, ?_⟩) ?_ ?_
                                                  rotate_left
                                                  · intro w'
                                                    go_simp
                                                    with_reducible rfl
                                                  rotate_left
                                                  · simp only [Act.put, List.setIfInBounds_toArray, List.set_cons_zero, List.set_cons_succ, i64_w, i32_w]
                                                    rfl
                                                  refine pure_ (i := 25) (N := some 212) (v := ?_) (a' := ?_) #[true, true, true, true, true, true, true, true, true, true, true, true, true, true, true, true, true, true, false, true, true, true, false, true, true, true, false, false, false, false, false, false, false, false, false, false, false, false, false, false, false, false, false, false, false, false, false, false, false, false, false, false, false, false, false, false, false, false, false] rfl rfl (any_of HT_.out (by kernel_rfl)) (fun _ _ _ h => h) (Or.inl ⟨by rfl, ?_⟩) ?_ ?_
                                                  rotate_left
                                                  · intro w'
                                                    go_simp
                                                    with_reducible rfl
                                                  rotate_left
                                                  · simp only [Act.put, List.setIfInBounds_toArray, List.set_cons_zero, List.set_cons_succ, i64_w, i32_w]
                                                    rfl
                                                  refine take_ (i := 18) (N := some 205) (v := ?_) (a' := ?_) #[true, true, true, true, true, true, true, true, true, true, true, true, true, true, true, true, true, true, true, true, true, true, false, true, true, true, false, false, false, false, false, false, false, false, false, false, false, false, false, false, false, false, false, false, false, false, false, false, false, false, false, false, false, false, false, false, false, false, false] rfl rfl (take_ofW HT_.out HW_.out (by kernel_rfl)) (fun _ _ _ h => h) (Or.inl ⟨by rfl, ?_⟩) hHeld ?_ ?_
                                                  rotate_left
                                                  · rintro w' ⟨s0, s1, s2, s3, s4, s5, s6, s7, s8, s9, s10⟩
                                                    go_simp
                                                    with_reducible rfl
                                                  rotate_left
                                                  · simp only [Act.put, List.setIfInBounds_toArray, List.set_cons_zero, List.set_cons_succ, i64_w, i32_w]
                                                    rfl
                                                  refine take_ (i := 22) (N := some 209) (v := ?_) (a' := ?_) #[true, true, true, true, true, true, true, true, true, true, true, true, true, true, true, true, true, true, true, true, true, true, true, true, true, true, false, false, false, false, false, false, false, false, false, false, false, false, false, false, false, false, false, false, false, false, false, false, false, false, false, false, false, false, false, false, false, false, false] rfl rfl (take_ofW HT_.out HW_.out (by kernel_rfl)) (fun _ _ _ h => h) (Or.inl ⟨by rfl, ?_⟩) hHeld ?_ ?_
                                                  rotate_left
                                                  · rintro w' ⟨s0, s1, s2, s3, s4, s5, s6, s7, s8, s9, s10⟩
                                                    go_simp
                                                    with_reducible rfl
                                                  rotate_left
                                                  · simp only [Act.put, List.setIfInBounds_toArray, List.set_cons_zero, List.set_cons_succ, i64_w, i32_w]
                                                    rfl
                                                  refine take_ (i := 26) (N := some 213) (v := ?_) (a' := ?_) #[true, true, true, true, true, true, true, true, true, true, true, true, true, true, true, true, true, true, true, true, true, true, true, true, true, true, true, false, false, false, false, false, false, false, false, false, false, false, false, false, false, false, false, false, false, false, false, false, false, false, false, false, false, false, false, false, false, false, false] rfl rfl (take_ofW HT_.out HW_.out (by kernel_rfl)) (fun _ _ _ h => h) (Or.inl ⟨by rfl, ?_⟩) hHeld ?_ ?_
                                                  rotate_left
                                                  · rintro w' ⟨s0, s1, s2, s3, s4, s5, s6, s7, s8, s9, s10⟩
                                                    go_simp
                                                    with_reducible rfl
                                                  rotate_left
                                                  · simp only [Act.put, List.setIfInBounds_toArray, List.set_cons_zero, List.set_cons_succ, i64_w, i32_w]
                                                    rfl
                                                  refine pure_ (i := 27) (N := some 214) (v := ?_) (a' := ?_) #[true, true, true, true, true, true, true, true, true, true, true, true, true, true, true, true, true, true, true, true, true, true, true, true, true, true, true, true, false, false, false, false, false, false, false, false, false, false, false, false, false, false, false, false, false, false, false, false, false, false, false, false, false, false, false, false, false, false, false] rfl rfl (any_of HT_.out (by kernel_rfl)) (fun _ _ _ h => h) (Or.inl ⟨by rfl, ?_⟩) ?_ ?_
                                                  rotate_left
                                                  · intro w'
                                                    go_simp
                                                    with_reducible rfl
                                                  rotate_left
                                                  · simp only [Act.put, List.setIfInBounds_toArray, List.set_cons_zero, List.set_cons_succ, i64_w, i32_w]
                                                    rfl
                                                  refine pure_ (i := 28) (N := some 215) (v := ?_) (a' := ?_) #[true, true, true, true, true, true, true, true, true, true, true, true, true, true, true, true, true, true, true, true, true, true, true, true, true, true, true, true, true, false, false, false, false, false, false, false, false, false, false, false, false, false, false, false, false, false, false, false, false, false, false, false, false, false, false, false, false, false, false] rfl rfl (any_of HT_.out (by kernel_rfl)) (fun _ _ _ h => h) (Or.inl ⟨by rfl, ?_⟩) ?_ ?_
                                                  rotate_left
                                                  · intro w'
                                                    go_simp
                                                    with_reducible rfl
                                                  rotate_left
                                                  · simp only [Act.put, List.setIfInBounds_toArray, List.set_cons_zero, List.set_cons_succ, i64_w, i32_w]
                                                    rfl
                                                  refine pure_ (i := 29) (N := some 216) (v := ?_) (a' := ?_) #[true, true, true, true, true, true, true, true, true, true, true, true, true, true, true, true, true, true, true, true, true, true, true, true, true, true, true, true, true, true, false, false, false, false, false, false, false, false, false, false, false, false, false, false, false, false, false, false, false, false, false, false, false, false, false, false, false, false, false] rfl rfl (any_of HT_.out (by kernel_rfl)) (fun _ _ _ h => h) (Or.inl ⟨by rfl, ?_⟩) ?_ ?_
                                                  rotate_left
                                                  · intro w'
                                                    go_simp
                                                    with_reducible rfl
                                                  rotate_left
                                                  · simp only [Act.put, List.setIfInBounds_toArray, List.set_cons_zero, List.set_cons_succ, i64_w, i32_w]
                                                    rfl
                                                  refine pure_ (i := 30) (N := some 217) (v := ?_) (a' := ?_) #[true, true, true, true, true, true, true, true, true, true, true, true, true, true, true, true, true, true, true, true, true, true, true, true, true, true, true, true, true, true, true, false, false, false, false, false, false, false, false, false, false, false, false, false, false, false, false, false, false, false, false, false, false, false, false, false, false, false, false] rfl rfl (any_of HT_.out (by kernel_rfl)) (fun _ _ _ h => h) (Or.inl ⟨by rfl, ?_⟩) ?_ ?_
                                                  rotate_left
                                                  · intro w'
                                                    go_simp
                                                    with_reducible rfl
                                                  rotate_left
                                                  · simp only [Act.put, List.setIfInBounds_toArray, List.set_cons_zero, List.set_cons_succ, i64_w, i32_w]
                                                    rfl
                                                  refine pure_ (i := 31) (N := some 218) (v := ?_) (a' := ?_) #[true, true, true, true, true, true, true, true, true, true, true, true, true, true, true, true, true, true, true, true, true, true, true, true, true, true, true, true, true, true, true, true, false, false, false, false, false, false, false, false, false, false, false, false, false, false, false, false, false, false, false, false, false, false, false, false, false, false, false] rfl rfl (any_of HT_.out (by kernel_rfl)) (fun _ _ _ h => h) (Or.inl ⟨by rfl, ?_⟩) ?_ ?_
                                                  rotate_left
                                                  · intro w'
                                                    go_simp
                                                    with_reducible rfl
                                                  rotate_left
                                                  · simp only [Act.put, List.setIfInBounds_toArray, List.set_cons_zero, List.set_cons_succ, i64_w, i32_w]
                                                    rfl
                                                  refine pure_ (i := 32) (N := some 219) (v := ?_) (a' := ?_) #[true, true, true, true, true, true, true, true, true, true, true, true, true, true, true, true, true, true, true, true, true, true, true, true, true, true, true, true, true, true, true, true, true, false, false, false, false, false, false, false, false, false, false, false, false, false, false, false, false, false, false, false, false, false, false, false, false, false, false] rfl rfl (any_of HT_.out (by kernel_rfl)) (fun _ _ _ h => h) (Or.inl ⟨by rfl, ?_⟩) ?_ ?_
                                                  rotate_left
                                                  · intro w'
                                                    go_simp
                                                    with_reducible rfl
                                                  rotate_left
                                                  · simp only [Act.put, List.setIfInBounds_toArray, List.set_cons_zero, List.set_cons_succ, i64_w, i32_w]
                                                    rfl
                                                  refine pure_ (i := 33) (N := some 220) (v := ?_) (a' := ?_) #[true, true, true, true, true, true, true, true, true, true, true, true, true, true, true, true, true, true, true, true, true, true, true, true, true, true, true, true, true, true, true, true, true, true, false, false, false, false, false, false, false, false, false, false, false, false, false, false, false, false, false, false, false, false, false, false, false, false, false] rfl rfl (any_of HT_.out (by kernel_rfl)) (fun _ _ _ h => h) (Or.inl ⟨by rfl, ?_⟩) ?_ ?_
                                                  rotate_left
                                                  · intro w'
                                                    go_simp
                                                    with_reducible rfl
                                                  rotate_left
                                                  · simp only [Act.put, List.setIfInBounds_toArray, List.set_cons_zero, List.set_cons_succ, i64_w, i32_w]
                                                    rfl
                                                  refine pure_ (i := 35) (N := some 222) (v := ?_) (a' := ?_) #[true, true, true, true, true, true, true, true, true, true, true, true, true, true, true, true, true, true, true, true, true, true, true, true, true, true, true, true, true, true, true, true, true, true, false, true, false, false, false, false, false, false, false, false, false, false, false, false, false, false, false, false, false, false, false, false, false, false, false] rfl rfl (any_of HT_.out (by kernel_rfl)) (fun _ _ _ h => h) (Or.inl ⟨by rfl, ?_⟩) ?_ ?_
                                                  rotate_left
                                                  · intro w'
                                                    go_simp
                                                    with_reducible rfl
                                                  rotate_left
                                                  · simp only [Act.put, List.setIfInBounds_toArray, List.set_cons_zero, List.set_cons_succ, i64_w, i32_w]
                                                    rfl
                                                  refine pure_ (i := 36) (N := some 223) (v := ?_) (a' := ?_) #[true, true, true, true, true, true, true, true, true, true, true, true, true, true, true, true, true, true, true, true, true, true, true, true, true, true, true, true, true, true, true, true, true, true, false, true, true, false, false, false, false, false, false, false, false, false, false, false, false, false, false, false, false, false, false, false, false, false, false] rfl rfl (any_of HT_.out (by kernel_rfl)) (fun _ _ _ h => h) (Or.inl ⟨by rfl, ?_⟩) ?_ ?_
                                                  rotate_left
                                                  · intro w'
                                                    go_simp
                                                    with_reducible rfl
                                                  rotate_left
                                                  · simp only [Act.put, List.setIfInBounds_toArray, List.set_cons_zero, List.set_cons_succ, i64_w, i32_w]
                                                    rfl
                                                  refine pure_ (i := 37) (N := some 224) (v := ?_) (a' := ?_) #[true, true, true, true, true, true, true, true, true, true, true, true, true, true, true, true, true, true, true, true, true, true, true, true, true, true, true, true, true, true, true, true, true, true, false, true, true, true, false, false, false, false, false, false, false, false, false, false, false, false, false, false, false, false, false, false, false, false, false] rfl rfl (any_of HT_.out (by kernel_rfl)) (fun _ _ _ h => h) (Or.inl ⟨by rfl, ?_⟩) ?_ ?_
                                                  rotate_left
                                                  · intro w'
                                                    go_simp
                                                    with_reducible rfl
                                                  rotate_left
                                                  · simp only [Act.put, List.setIfInBounds_toArray, List.set_cons_zero, List.set_cons_succ, i64_w, i32_w]
                                                    rfl
                                                  refine pure_ (i := 39) (N := some 226) (v := ?_) (a' := ?_) #[true, true, true, true, true, true, true, true, true, true, true, true, true, true, true, true, true, true, true, true, true, true, true, true, true, true, true, true, true, true, true, true, true, true, false, true, true, true, false, true, false, false, false, false, false, false, false, false, false, false, false, false, false, false, false, false, false, false, false] rfl rfl (any_of HT_.out (by kernel_rfl)) (fun _ _ _ h => h) (Or.inl ⟨by rfl, ?_⟩) ?_ ?_
                                                  rotate_left
                                                  · intro w'
                                                    go_simp
                                                    with_reducible rfl
                                                  rotate_left
                                                  · simp only [Act.put, List.setIfInBounds_toArray, List.set_cons_zero, List.set_cons_succ, i64_w, i32_w]
                                                    rfl
                                                  refine pure_ (i := 40) (N := some 227) (v := ?_) (a' := ?_) #[true, true, true, true, true, true, true, true, true, true, true, true, true, true, true, true, true, true, true, true, true, true, true, true, true, true, true, true, true, true, true, true, true, true, false, true, true, true, false, true, true, false, false, false, false, false, false, false, false, false, false, false, false, false, false, false, false, false, false] rfl rfl (any_of HT_.out (by kernel_rfl)) (fun _ _ _ h => h) (Or.inl ⟨by rfl, ?_⟩) ?_ ?_
                                                  rotate_left
                                                  · intro w'
                                                    go_simp
                                                    with_reducible rfl
                                                  rotate_left
                                                  · simp only [Act.put, List.setIfInBounds_toArray, List.set_cons_zero, List.set_cons_succ, i64_w, i32_w]
                                                    rfl
                                                  refine pure_ (i := 41) (N := some 228) (v := ?_) (a' := ?_) #[true, true, true, true, true, true, true, true, true, true, true, true, true, true, true, true, true, true, true, true, true, true, true, true, true, true, true, true, true, true, true, true, true, true, false, true, true, true, false, true, true, true, false, false, false, false, false, false, false, false, false, false, false, false, false, false, false, false, false] rfl rfl (any_of HT_.out (by kernel_rfl)) (fun _ _ _ h => h) (Or.inl ⟨by rfl, ?_⟩) ?_ ?_
                                                  rotate_left
                                                  · intro w'
                                                    go_simp
                                                    with_reducible rfl
                                                  rotate_left
                                                  · simp only [Act.put, List.setIfInBounds_toArray, List.set_cons_zero, List.set_cons_succ, i64_w, i32_w]
                                                    rfl
                                                  refine take_ (i := 34) (N := some 221) (v := ?_) (a' := ?_) #[true, true, true, true, true, true, true, true, true, true, true, true, true, true, true, true, true, true, true, true, true, true, true, true, true, true, true, true, true, true, true, true, true, true, true, true, true, true, false, true, true, true, false, false, false, false, false, false, false, false, false, false, false, false, false, false, false, false, false] rfl rfl (take_ofW HT_.out HW_.out (by kernel_rfl)) (fun _ _ _ h => h) (Or.inl ⟨by rfl, ?_⟩) hHeld ?_ ?_
                                                  rotate_left
                                                  · rintro w' ⟨s0, s1, s2, s3, s4, s5, s6, s7, s8, s9, s10⟩
                                                    go_simp
                                                    with_reducible rfl
                                                  rotate_left
                                                  · simp only [Act.put, List.setIfInBounds_toArray, List.set_cons_zero, List.set_cons_succ, i64_w, i32_w]
                                                    rfl
                                                  refine take_ (i := 38) (N := some 225) (v := ?_) (a' := ?_) #[true, true, true, true, true, true, true, true, true, true, true, true, true, true, true, true, true, true, true, true, true, true, true, true, true, true, true, true, true, true, true, true, true, true, true, true, true, true, true, true, true, true, false, false, false, false, false, false, false, false, false, false, false, false, false, false, false, false, false] rfl rfl (take_ofW HT_.out HW_.out (by kernel_rfl)) (fun _ _ _ h => h) (Or.inl ⟨by rfl, ?_⟩) hHeld ?_ ?_
                                                  rotate_left
                                                  · rintro w' ⟨s0, s1, s2, s3, s4, s5, s6, s7, s8, s9, s10⟩
                                                    go_simp
                                                    with_reducible rfl
                                                  rotate_left
                                                  · simp only [Act.put, List.setIfInBounds_toArray, List.set_cons_zero, List.set_cons_succ, i64_w, i32_w]
                                                    rfl
                                                  refine take_ (i := 42) (N := some 229) (v := ?_) (a' := ?_) #[true, true, true, true, true, true, true, true, true, true, true, true, true, true, true, true, true, true, true, true, true, true, true, true, true, true, true, true, true, true, true, true, true, true, true, true, true, true, true, true, true, true, true, false, false, false, false, false, false, false, false, false, false, false, false, false, false, false, false] rfl rfl (take_ofW HT_.out HW_.out (by kernel_rfl)) (fun _ _ _ h => h) (Or.inl ⟨by rfl, ?_⟩) hHeld ?_ ?_
                                                  rotate_left
                                                  · rintro w' ⟨s0, s1, s2, s3, s4, s5, s6, s7, s8, s9, s10⟩
                                                    go_simp
                                                    with_reducible rfl
                                                  rotate_left
                                                  · simp only [Act.put, List.setIfInBounds_toArray, List.set_cons_zero, List.set_cons_succ, i64_w, i32_w]
                                                    rfl
                                                  refine pure_ (i := 43) (N := some 230) (v := ?_) (a' := ?_) #[true, true, true, true, true, true, true, true, true, true, true, true, true, true, true, true, true, true, true, true, true, true, true, true, true, true, true, true, true, true, true, true, true, true, true, true, true, true, true, true, true, true, true, true, false, false, false, false, false, false, false, false, false, false, false, false, false, false, false] rfl rfl (any_of HT_.out (by kernel_rfl)) (fun _ _ _ h => h) (Or.inl ⟨by rfl, ?_⟩) ?_ ?_
                                                  rotate_left
                                                  · intro w'
                                                    go_simp
                                                    with_reducible rfl
                                                  rotate_left
                                                  · simp only [Act.put, List.setIfInBounds_toArray, List.set_cons_zero, List.set_cons_succ, i64_w, i32_w]
                                                    rfl
                                                  refine one_ (i := 44) (N := some 231) #[true, true, true, true, true, true, true, true, true, true, true, true, true, true, true, true, true, true, true, true, true, true, true, true, true, true, true, true, true, true, true, true, true, true, true, true, true, true, true, true, true, true, true, true, true, false, false, false, false, false, false, false, false, false, false, false, false, false, false] rfl rfl (one_of HT_.out (by kernel_rfl)) (by decide) (fun K hK => ?_)
                                                  refine goes_ Try.func18 (by kernel_rfl) rfl #[.bool ((rd t216 x27_4) != (rd t220 x27_4))] (by rfl) rfl rfl (by (try simp only [List.map_toArray, List.map_cons, List.map_nil]); first | done | rfl | (simp only [List.length_drop, List.length_take]; rfl)) ?_
                                                  with_reducible refine (stereopsisref01_One.calls ((rd t216 x27_4) != (rd t220 x27_4)) t249 _ A65.out).mono ?_
                                                  rintro e w' ⟨rfl, ⟨nd, rfl⟩⟩
                                                  refine ⟨_, rfl, ?_⟩
                                                  obtain ⟨Ao75, co75, eo75⟩ := Kd.R_slice HO_25.out
                                                  (first | subst eo75 | (injection eo75 with f1_ f2_ f3_; have f4_ := f1_.symm; have f5_ := f3_.symm; clear f1_ f2_ f3_; subst f4_; subst f5_))
                                                  refine hK.out _ _ ⟨hHeld.1, hHeld.2.1, hHeld.2.2.1, hHeld.2.2.2.1, hHeld.2.2.2.2.1, hHeld.2.2.2.2.2.1, hHeld.2.2.2.2.2.2.1, hHeld.2.2.2.2.2.2.2.1, hHeld.2.2.2.2.2.2.2.2.1, hHeld.2.2.2.2.2.2.2.2.2.1, hHeld.2.2.2.2.2.2.2.2.2.2⟩ (fun hHeld => ?_)
                                                  clear hK K
                                                  refine norm_ (a' := ?_) ?_ ?_
                                                  rotate_left
                                                  · show Act.put _ (some 231) _ = _
                                                    simp only [Act.put, List.setIfInBounds_toArray, List.set_cons_zero, List.set_cons_succ, i64_w, i32_w]
                                                    rfl
                                                  refine pure_ (i := 45) (N := some 232) (v := ?_) (a' := ?_) #[true, true, true, true, true, true, true, true, true, true, true, true, true, true, true, true, true, true, true, true, true, true, true, true, true, true, true, true, true, true, true, true, true, true, true, true, true, true, true, true, true, true, true, true, true, true, false, false, false, false, false, false, false, false, false, false, false, false, false] rfl rfl (any_of HT_.out (by kernel_rfl)) (fun _ _ _ h => h) (Or.inl ⟨by rfl, ?_⟩) ?_ ?_
                                                  rotate_left
                                                  · intro w'
                                                    go_simp
                                                    with_reducible rfl
                                                  rotate_left
                                                  · simp only [Act.put, List.setIfInBounds_toArray, List.set_cons_zero, List.set_cons_succ, i64_w, i32_w]
                                                    rfl
                                                  refine pure_ (i := 46) (N := some 233) (v := ?_) (a' := ?_) #[true, true, true, true, true, true, true, true, true, true, true, true, true, true, true, true, true, true, true, true, true, true, true, true, true, true, true, true, true, true, true, true, true, true, true, true, true, true, true, true, true, true, true, true, true, true, true, false, false, false, false, false, false, false, false, false, false, false, false] rfl rfl (any_of HT_.out (by kernel_rfl)) (fun _ _ _ h => h) (Or.inl ⟨by rfl, ?_⟩) ?_ ?_
                                                  rotate_left
                                                  · intro w'
                                                    go_simp
                                                    with_reducible rfl
                                                  rotate_left
                                                  · simp only [Act.put, List.setIfInBounds_toArray, List.set_cons_zero, List.set_cons_succ, i64_w, i32_w]
                                                    rfl
                                                  refine pure_ (i := 47) (N := some 234) (v := ?_) (a' := ?_) #[true, true, true, true, true, true, true, true, true, true, true, true, true, true, true, true, true, true, true, true, true, true, true, true, true, true, true, true, true, true, true, true, true, true, true, true, true, true, true, true, true, true, true, true, true, true, true, true, false, false, false, false, false, false, false, false, false, false, false] rfl rfl (any_of HT_.out (by kernel_rfl)) (fun _ _ _ h => h) (Or.inl ⟨by rfl, ?_⟩) ?_ ?_
                                                  rotate_left
                                                  · intro w'
                                                    go_simp
                                                    with_reducible rfl
                                                  rotate_left
                                                  · simp only [Act.put, List.setIfInBounds_toArray, List.set_cons_zero, List.set_cons_succ, i64_w, i32_w]
                                                    rfl
                                                  refine pure_ (i := 48) (N := some 235) (v := ?_) (a' := ?_) #[true, true, true, true, true, true, true, true, true, true, true, true, true, true, true, true, true, true, true, true, true, true, true, true, true, true, true, true, true, true, true, true, true, true, true, true, true, true, true, true, true, true, true, true, true, true, true, true, true, false, false, false, false, false, false, false, false, false, false] rfl rfl (any_of HT_.out (by kernel_rfl)) (fun _ _ _ h => h) (Or.inl ⟨by rfl, ?_⟩) ?_ ?_
                                                  rotate_left
                                                  · intro w'
                                                    go_simp
                                                    with_reducible rfl
                                                  rotate_left
                                                  · simp only [Act.put, List.setIfInBounds_toArray, List.set_cons_zero, List.set_cons_succ, i64_w, i32_w]
                                                    rfl
                                                  refine pure_ (i := 49) (N := some 236) (v := ?_) (a' := ?_) #[true, true, true, true, true, true, true, true, true, true, true, true, true, true, true, true, true, true, true, true, true, true, true, true, true, true, true, true, true, true, true, true, true, true, true, true, true, true, true, true, true, true, true, true, true, true, true, true, true, true, false, false, false, false, false, false, false, false, false] rfl rfl (any_of HT_.out (by kernel_rfl)) (fun _ _ _ h => h) (Or.inl ⟨by rfl, ?_⟩) ?_ ?_
                                                  rotate_left
                                                  · intro w'
                                                    go_simp
                                                    with_reducible rfl
                                                  rotate_left
                                                  · simp only [Act.put, List.setIfInBounds_toArray, List.set_cons_zero, List.set_cons_succ, i64_w, i32_w]
                                                    rfl
                                                  refine pure_ (i := 50) (N := some 237) (v := ?_) (a' := ?_) #[true, true, true, true, true, true, true, true, true, true, true, true, true, true, true, true, true, true, true, true, true, true, true, true, true, true, true, true, true, true, true, true, true, true, true, true, true, true, true, true, true, true, true, true, true, true, true, true, true, true, true, false, false, false, false, false, false, false, false] rfl rfl (any_of HT_.out (by kernel_rfl)) (fun _ _ _ h => h) (Or.inl ⟨by rfl, ?_⟩) ?_ ?_
                                                  rotate_left
                                                  · intro w'
                                                    go_simp
                                                    with_reducible rfl
                                                  rotate_left
                                                  · simp only [Act.put, List.setIfInBounds_toArray, List.set_cons_zero, List.set_cons_succ, i64_w, i32_w]
                                                    rfl
                                                  refine pure_ (i := 52) (N := some 239) (v := ?_) (a' := ?_) #[true, true, true, true, true, true, true, true, true, true, true, true, true, true, true, true, true, true, true, true, true, true, true, true, true, true, true, true, true, true, true, true, true, true, true, true, true, true, true, true, true, true, true, true, true, true, true, true, true, true, true, false, true, false, false, false, false, false, false] rfl rfl (any_of HT_.out (by kernel_rfl)) (fun _ _ _ h => h) (Or.inl ⟨by rfl, ?_⟩) ?_ ?_
                                                  rotate_left
                                                  · intro w'
                                                    go_simp
                                                    with_reducible rfl
                                                  rotate_left
                                                  · simp only [Act.put, List.setIfInBounds_toArray, List.set_cons_zero, List.set_cons_succ, i64_w, i32_w]
                                                    rfl
                                                  refine pure_ (i := 53) (N := some 240) (v := ?_) (a' := ?_) #[true, true, true, true, true, true, true, true, true, true, true, true, true, true, true, true, true, true, true, true, true, true, true, true, true, true, true, true, true, true, true, true, true, true, true, true, true, true, true, true, true, true, true, true, true, true, true, true, true, true, true, false, true, true, false, false, false, false, false] rfl rfl (any_of HT_.out (by kernel_rfl)) (fun _ _ _ h => h) (Or.inl ⟨by rfl, ?_⟩) ?_ ?_
                                                  rotate_left
                                                  · intro w'
                                                    go_simp
                                                    with_reducible rfl
                                                  rotate_left
                                                  · simp only [Act.put, List.setIfInBounds_toArray, List.set_cons_zero, List.set_cons_succ, i64_w, i32_w]
                                                    rfl
                                                  refine pure_ (i := 54) (N := some 241) (v := ?_) (a' := ?_) #[true, true, true, true, true, true, true, true, true, true, true, true, true, true, true, true, true, true, true, true, true, true, true, true, true, true, true, true, true, true, true, true, true, true, true, true, true, true, true, true, true, true, true, true, true, true, true, true, true, true, true, false, true, true, true, false, false, false, false] rfl rfl (any_of HT_.out (by kernel_rfl)) (fun _ _ _ h => h) (Or.inl ⟨by rfl, ?_⟩) ?_ ?_
                                                  rotate_left
                                                  · intro w'
                                                    go_simp
                                                    with_reducible rfl
                                                  rotate_left
                                                  · simp only [Act.put, List.setIfInBounds_toArray, List.set_cons_zero, List.set_cons_succ, i64_w, i32_w]
                                                    rfl
                                                  refine take_ (i := 51) (N := some 238) (v := ?_) (a' := ?_) #[true, true, true, true, true, true, true, true, true, true, true, true, true, true, true, true, true, true, true, true, true, true, true, true, true, true, true, true, true, true, true, true, true, true, true, true, true, true, true, true, true, true, true, true, true, true, true, true, true, true, true, true, true, true, true, false, false, false, false] rfl rfl (take_ofW HT_.out HW_.out (by kernel_rfl)) (fun _ _ _ h => h) (Or.inl ⟨by rfl, ?_⟩) hHeld ?_ ?_
                                                  rotate_left
                                                  · rintro w' ⟨s0, s1, s2, s3, s4, s5, s6, s7, s8, s9, s10⟩
                                                    go_simp
                                                    with_reducible rfl
                                                  rotate_left
                                                  · simp only [Act.put, List.setIfInBounds_toArray, List.set_cons_zero, List.set_cons_succ, i64_w, i32_w]
                                                    rfl
                                                  refine take_ (i := 55) (N := some 242) (v := ?_) (a' := ?_) #[true, true, true, true, true, true, true, true, true, true, true, true, true, true, true, true, true, true, true, true, true, true, true, true, true, true, true, true, true, true, true, true, true, true, true, true, true, true, true, true, true, true, true, true, true, true, true, true, true, true, true, true, true, true, true, true, false, false, false] rfl rfl (take_ofW HT_.out HW_.out (by kernel_rfl)) (fun _ _ _ h => h) (Or.inl ⟨by rfl, ?_⟩) hHeld ?_ ?_
                                                  rotate_left
                                                  · rintro w' ⟨s0, s1, s2, s3, s4, s5, s6, s7, s8, s9, s10⟩
                                                    go_simp
                                                    with_reducible rfl
                                                  rotate_left
                                                  · simp only [Act.put, List.setIfInBounds_toArray, List.set_cons_zero, List.set_cons_succ, i64_w, i32_w]
                                                    rfl
                                                  refine pure_ (i := 56) (N := some 243) (v := ?_) (a' := ?_) #[true, true, true, true, true, true, true, true, true, true, true, true, true, true, true, true, true, true, true, true, true, true, true, true, true, true, true, true, true, true, true, true, true, true, true, true, true, true, true, true, true, true, true, true, true, true, true, true, true, true, true, true, true, true, true, true, true, false, false] rfl rfl (any_of HT_.out (by kernel_rfl)) (fun _ _ _ h => h) (Or.inl ⟨by rfl, ?_⟩) ?_ ?_
                                                  rotate_left
                                                  · intro w'
                                                    go_simp
                                                    with_reducible rfl
                                                  rotate_left
                                                  · simp only [Act.put, List.setIfInBounds_toArray, List.set_cons_zero, List.set_cons_succ, i64_w, i32_w]
                                                    rfl
                                                  refine pure_ (i := 57) (N := some 244) (v := ?_) (a' := ?_) #[true, true, true, true, true, true, true, true, true, true, true, true, true, true, true, true, true, true, true, true, true, true, true, true, true, true, true, true, true, true, true, true, true, true, true, true, true, true, true, true, true, true, true, true, true, true, true, true, true, true, true, true, true, true, true, true, true, true, false] rfl rfl (any_of HT_.out (by kernel_rfl)) (fun _ _ _ h => h) (Or.inl ⟨by rfl, ?_⟩) ?_ ?_
                                                  rotate_left
                                                  · intro w'
                                                    go_simp
                                                    with_reducible rfl
                                                  rotate_left
                                                  · simp only [Act.put, List.setIfInBounds_toArray, List.set_cons_zero, List.set_cons_succ, i64_w, i32_w]
                                                    rfl
                                                  refine pure_ (i := 58) (N := some 245) (v := ?_) (a' := ?_) #[true, true, true, true, true, true, true, true, true, true, true, true, true, true, true, true, true, true, true, true, true, true, true, true, true, true, true, true, true, true, true, true, true, true, true, true, true, true, true, true, true, true, true, true, true, true, true, true, true, true, true, true, true, true, true, true, true, true, true] rfl rfl (any_of HT_.out (by kernel_rfl)) (fun _ _ _ h => h) (Or.inl ⟨by rfl, ?_⟩) ?_ ?_
                                                  rotate_left
                                                  · intro w'
                                                    go_simp
                                                    with_reducible rfl
                                                  rotate_left
                                                  · simp only [Act.put, List.setIfInBounds_toArray, List.set_cons_zero, List.set_cons_succ, i64_w, i32_w]
                                                    rfl
                                                  refine done_ (done_of HT_.out (by kernel_rfl)) ?_
                                                  try go_wp2
                                                  go_roundg k4
                                                  case measure => have := HJ3.out; have := HJ20.out; have := HJ41.out; have := HK4.out; omega
                                                  case rel => exact ⟨(wrap64 (x27_4 + 1)), (by first | rfl | (simp; done) | (simp [*]; done)), H', ⟨by have := HJ3.out; have := HJ20.out; have := HJ41.out; have := HK4.out; omega⟩, ⟨by (with_reducible repeat (first | apply Kd.R_alloc | apply Kd.R_drewN | apply Kd.R_drew)); exact HO_15.out⟩, ⟨by (with_reducible repeat (first | apply Kd.R_alloc | apply Kd.R_drewN | apply Kd.R_drew)); exact HO_17.out⟩, ⟨by (with_reducible repeat (first | apply Kd.R_alloc | apply Kd.R_drewN | apply Kd.R_drew)); exact HO_19.out⟩, ⟨by (with_reducible repeat (first | apply Kd.R_alloc | apply Kd.R_drewN | apply Kd.R_drew)); exact HO_21.out⟩, ⟨by (with_reducible repeat (first | apply Kd.R_alloc | apply Kd.R_drewN | apply Kd.R_drew)); exact HO_23.out⟩, ⟨by (with_reducible repeat (first | apply Kd.R_alloc | apply Kd.R_drewN | apply Kd.R_drew)); exact HO_25.out⟩, ⟨by repeat (first | (with_reducible first | exact HB.out | apply below_alloc | apply pw_below_drewN | apply below_drew1) | exact HB.out)⟩⟩
                                              · rw [if_neg c68] at H
                                                have c68b0 : ((rd t236 x27_4) == (wrap64 (1 - (rd t216 x27_4)))) = false := beq_eq_false_iff_ne.mpr c68
                                                have c68b1 : ((rd t236 x27_4) != (wrap64 (1 - (rd t216 x27_4)))) = true := bne_iff_ne.mpr c68
                                                as_aux_lemma =>
                                                  exact absurd H (by simp)
                                            · rw [if_neg c67] at H
                                              exact absurd H (by simp)
                                          · rw [if_neg c66] at H
                                            have c66b0 : ((rd t232 x27_4) == t249) = false := beq_eq_false_iff_ne.mpr c66
                                            have c66b1 : ((rd t232 x27_4) != t249) = true := bne_iff_ne.mpr c66
                                            as_aux_lemma =>
                                              exact absurd H (by simp)
                                        · rw [if_neg c64] at H
                                          exact absurd H (by simp)
                                      · rw [if_neg c63] at H
                                        have c63b0 : ((rd t228 x27_4) == (ji62)) = false := beq_eq_false_iff_ne.mpr c63
                                        have c63b1 : ((rd t228 x27_4) != (ji62)) = true := bne_iff_ne.mpr c63
                                        as_aux_lemma =>
                                          exact absurd H (by simp)
                                    · rw [if_neg c61] at H
                                      exact absurd H (by simp)
                                  · rw [if_neg c60] at H
                                    have c60b0 : ((rd t224 x27_4) == (wrap64 ((rd t216 x27_4) * (rd t220 x27_4)))) = false := beq_eq_false_iff_ne.mpr c60
                                    have c60b1 : ((rd t224 x27_4) != (wrap64 ((rd t216 x27_4) * (rd t220 x27_4)))) = true := bne_iff_ne.mpr c60
                                    as_aux_lemma =>
                                      exact absurd H (by simp)
                                · rw [if_neg c59] at H
                                  exact absurd H (by simp)
                              · rw [if_neg c58] at H
                                exact absurd H (by simp)
                            · rw [if_neg c57] at H
                              exact absurd H (by simp)
                          · rw [if_neg c56] at H
                            exact absurd H (by simp)
                        · rw [if_neg c55] at H
                          have c55b0 : decide (x27_4 < a0) = false := decide_eq_false c55
                          clear c55
                          by_cases c76 : a2 ≥ a0
                          · rw [if_pos c76] at H
                            have c76b0 : decide (a0 ≤ a2) = true := decide_eq_true c76
                            clear c76
                            replace H := Option.bind_eq_some_iff.mp H
                            obtain ⟨t252, A770, H⟩ := H
                            replace H : (some t252) = some true := H
                            have A77 := Aside0.mk A770
                            clear A770
                            as_aux_lemma =>
                              have HX_ := Aside0.mk (Option.some.inj H)
                              clear H
                              go_wp2_with (first | ((with_reducible refine gate_callee (f := 14) rfl ?_); refine goesL_ (some 249) rfl rfl Try.func14 (by kernel_rfl) rfl #[] rfl (by (try simp only [List.map_toArray, List.map_cons, List.map_nil]); first | done | rfl | (simp only [List.length_drop, List.length_take]; rfl)) ?_; (with_reducible refine (stereopsislaw01_awake.calls k4  t252 _ A77.out).mono ?_); rintro e w78 ⟨rfl, hb⟩; refine ⟨_, rfl, ?_⟩; have n0_ := Aside0.mk (Kd.R_below (by (with_reducible repeat (first | apply Kd.R_alloc | apply Kd.R_drewN | apply Kd.R_drew)); exact HO_15.out) hb); have n1_ := Aside0.mk (Kd.R_below (by (with_reducible repeat (first | apply Kd.R_alloc | apply Kd.R_drewN | apply Kd.R_drew)); exact HO_17.out) hb); have n2_ := Aside0.mk (Kd.R_below (by (with_reducible repeat (first | apply Kd.R_alloc | apply Kd.R_drewN | apply Kd.R_drew)); exact HO_19.out) hb); have n3_ := Aside0.mk (Kd.R_below (by (with_reducible repeat (first | apply Kd.R_alloc | apply Kd.R_drewN | apply Kd.R_drew)); exact HO_21.out) hb); have n4_ := Aside0.mk (Kd.R_below (by (with_reducible repeat (first | apply Kd.R_alloc | apply Kd.R_drewN | apply Kd.R_drew)); exact HO_23.out) hb); have n5_ := Aside0.mk (Kd.R_below (by (with_reducible repeat (first | apply Kd.R_alloc | apply Kd.R_drewN | apply Kd.R_drew)); exact HO_25.out) hb); have n6_ := Aside0.mk (below_step (by repeat (first | (with_reducible first | exact HB.out | apply below_alloc | apply pw_below_drewN | apply below_drew1) | exact HB.out)) hb); clear HO_15; clear HO_17; clear HO_19; clear HO_21; clear HO_23; clear HO_25; clear HB; have HO_15 := n0_; have HO_17 := n1_; have HO_19 := n2_; have HO_21 := n3_; have HO_23 := n4_; have HO_25 := n5_; have HB := n6_; clear n0_ n1_ n2_ n3_ n4_ n5_ n6_; (try clear hb); (try clear hb2); (try clear hk); (try clear hi)))
                              go_ret
                              exact ⟨by first | (rw [HX_.out]; done) | (simp [HX_.out]; done) | rfl | (simp [errW_none, errW_some] <;> rfl) | (simp [*, errW_none, errW_some] <;> rfl), by repeat (first | (with_reducible first | exact HB.out | apply below_alloc | apply pw_below_drewN | apply below_drew1) | exact HB.out)⟩
                          · rw [if_neg c76] at H
                            have c76b0 : decide (a0 ≤ a2) = false := decide_eq_false c76
                            clear c76
                            replace H := Option.bind_eq_some_iff.mp H
                            obtain ⟨⟨t253, t254⟩, A790, H⟩ := H
                            replace H : ((stereopsislaw01_do.f k4 11 a0 a1 a2).bind fun bt255 => ((stereopsisref01_Pow.f k4 a2).bind fun t257 => ((stereopsislaw01_do.f k4 4 a0 a1 t257).bind fun bt258 => ((stereopsisref01_Pow.f k4 a2).bind fun t260 => ((stereopsislaw01_do.f k4 5 a0 a1 t260).bind fun bt261 => (if t254 = true then (if bt255.2 = true then (if bt258.2 = true then (if bt261.2 = true then (if t253 = bt258.1 then (if bt255.1 = bt261.1 then ((stereopsislaw01_awake.f k4).bind fun t263 => (some t263)) else (some false)) else (some false)) else (some false)) else (some false)) else (some false)) else (some false))))))) = some true := H
                            have A79 := Aside0.mk A790
                            clear A790
                            replace H := Option.bind_eq_some_iff.mp H
                            obtain ⟨⟨t255, t256⟩, A800, H⟩ := H
                            replace H : ((stereopsisref01_Pow.f k4 a2).bind fun t257 => ((stereopsislaw01_do.f k4 4 a0 a1 t257).bind fun bt258 => ((stereopsisref01_Pow.f k4 a2).bind fun t260 => ((stereopsislaw01_do.f k4 5 a0 a1 t260).bind fun bt261 => (if t254 = true then (if t256 = true then (if bt258.2 = true then (if bt261.2 = true then (if t253 = bt258.1 then (if t255 = bt261.1 then ((stereopsislaw01_awake.f k4).bind fun t263 => (some t263)) else (some false)) else (some false)) else (some false)) else (some false)) else (some false)) else (some false)))))) = some true := H
                            have A80 := Aside0.mk A800
                            clear A800
                            replace H := Option.bind_eq_some_iff.mp H
                            obtain ⟨t257, A810, H⟩ := H
                            replace H : ((stereopsislaw01_do.f k4 4 a0 a1 t257).bind fun bt258 => ((stereopsisref01_Pow.f k4 a2).bind fun t260 => ((stereopsislaw01_do.f k4 5 a0 a1 t260).bind fun bt261 => (if t254 = true then (if t256 = true then (if bt258.2 = true then (if bt261.2 = true then (if t253 = bt258.1 then (if t255 = bt261.1 then ((stereopsislaw01_awake.f k4).bind fun t263 => (some t263)) else (some false)) else (some false)) else (some false)) else (some false)) else (some false)) else (some false))))) = some true := H
                            have A81 := Aside0.mk A810
                            clear A810
                            replace H := Option.bind_eq_some_iff.mp H
                            obtain ⟨⟨t258, t259⟩, A820, H⟩ := H
                            replace H : ((stereopsisref01_Pow.f k4 a2).bind fun t260 => ((stereopsislaw01_do.f k4 5 a0 a1 t260).bind fun bt261 => (if t254 = true then (if t256 = true then (if t259 = true then (if bt261.2 = true then (if t253 = t258 then (if t255 = bt261.1 then ((stereopsislaw01_awake.f k4).bind fun t263 => (some t263)) else (some false)) else (some false)) else (some false)) else (some false)) else (some false)) else (some false)))) = some true := H
                            have A82 := Aside0.mk A820
                            clear A820
                            replace H := Option.bind_eq_some_iff.mp H
                            obtain ⟨t260, A830, H⟩ := H
                            replace H : ((stereopsislaw01_do.f k4 5 a0 a1 t260).bind fun bt261 => (if t254 = true then (if t256 = true then (if t259 = true then (if bt261.2 = true then (if t253 = t258 then (if t255 = bt261.1 then ((stereopsislaw01_awake.f k4).bind fun t263 => (some t263)) else (some false)) else (some false)) else (some false)) else (some false)) else (some false)) else (some false))) = some true := H
                            have A83 := Aside0.mk A830
                            clear A830
                            replace H := Option.bind_eq_some_iff.mp H
                            obtain ⟨⟨t261, t262⟩, A840, H⟩ := H
                            replace H : (if t254 = true then (if t256 = true then (if t259 = true then (if t262 = true then (if t253 = t258 then (if t255 = t261 then ((stereopsislaw01_awake.f k4).bind fun t263 => (some t263)) else (some false)) else (some false)) else (some false)) else (some false)) else (some false)) else (some false)) = some true := H
                            have A84 := Aside0.mk A840
                            clear A840
                            by_cases c85 : t254 = true
                            · subst c85
                              have H1 : (if t256 = true then (if t259 = true then (if t262 = true then (if t253 = t258 then (if t255 = t261 then ((stereopsislaw01_awake.f k4).bind fun t263 => (some t263)) else (some false)) else (some false)) else (some false)) else (some false)) else (some false)) = some true := by rw [if_pos rfl] at H; exact H
                              clear H
                              have H := H1
                              clear H1
                              by_cases c86 : t256 = true
                              · subst c86
                                have H1 : (if t259 = true then (if t262 = true then (if t253 = t258 then (if t255 = t261 then ((stereopsislaw01_awake.f k4).bind fun t263 => (some t263)) else (some false)) else (some false)) else (some false)) else (some false)) = some true := by rw [if_pos rfl] at H; exact H
                                clear H
                                have H := H1
                                clear H1
                                by_cases c87 : t259 = true
                                · subst c87
                                  have H1 : (if t262 = true then (if t253 = t258 then (if t255 = t261 then ((stereopsislaw01_awake.f k4).bind fun t263 => (some t263)) else (some false)) else (some false)) else (some false)) = some true := by rw [if_pos rfl] at H; exact H
                                  clear H
                                  have H := H1
                                  clear H1
                                  by_cases c88 : t262 = true
                                  · subst c88
                                    have H1 : (if t253 = t258 then (if t255 = t261 then ((stereopsislaw01_awake.f k4).bind fun t263 => (some t263)) else (some false)) else (some false)) = some true := by rw [if_pos rfl] at H; exact H
                                    clear H
                                    have H := H1
                                    clear H1
                                    by_cases c89 : t253 = t258
                                    · rw [if_pos c89] at H
                                      have c89b0 : (t253 == t258) = true := beq_iff_eq.mpr c89
                                      have c89b1 : (t253 != t258) = false := bne_eq_false_iff_eq.mpr c89
                                      clear c89
                                      by_cases c90 : t255 = t261
                                      · rw [if_pos c90] at H
                                        have c90b0 : (t255 == t261) = true := beq_iff_eq.mpr c90
                                        have c90b1 : (t255 != t261) = false := bne_eq_false_iff_eq.mpr c90
                                        clear c90
                                        replace H := Option.bind_eq_some_iff.mp H
                                        obtain ⟨t263, A910, H⟩ := H
                                        replace H : (some t263) = some true := H
                                        have A91 := Aside0.mk A910
                                        clear A910
                                        as_aux_lemma =>
                                          have HX_ := Aside0.mk (Option.some.inj H)
                                          clear H
                                          go_wp2_with (first | ((with_reducible refine gate_callee (f := 16) rfl ?_); refine goesL_ (some 254) rfl rfl Try.func16 (by kernel_rfl) rfl #[.int .i64 10, .int .i64 a0, .int .i64 a1, .int .i64 a2] rfl (by (try simp only [List.map_toArray, List.map_cons, List.map_nil]); first | done | rfl | (simp only [List.length_drop, List.length_take]; rfl)) ?_; (with_reducible refine (stereopsislaw01_do.calls k4 10 a0 a1 a2 t253 true _ A79.out).mono ?_); rintro e w92 ⟨rfl, hb⟩; refine ⟨_, rfl, ?_⟩; have n0_ := Aside0.mk (Kd.R_below (by (with_reducible repeat (first | apply Kd.R_alloc | apply Kd.R_drewN | apply Kd.R_drew)); exact HO_15.out) hb); have n1_ := Aside0.mk (Kd.R_below (by (with_reducible repeat (first | apply Kd.R_alloc | apply Kd.R_drewN | apply Kd.R_drew)); exact HO_17.out) hb); have n2_ := Aside0.mk (Kd.R_below (by (with_reducible repeat (first | apply Kd.R_alloc | apply Kd.R_drewN | apply Kd.R_drew)); exact HO_19.out) hb); have n3_ := Aside0.mk (Kd.R_below (by (with_reducible repeat (first | apply Kd.R_alloc | apply Kd.R_drewN | apply Kd.R_drew)); exact HO_21.out) hb); have n4_ := Aside0.mk (Kd.R_below (by (with_reducible repeat (first | apply Kd.R_alloc | apply Kd.R_drewN | apply Kd.R_drew)); exact HO_23.out) hb); have n5_ := Aside0.mk (Kd.R_below (by (with_reducible repeat (first | apply Kd.R_alloc | apply Kd.R_drewN | apply Kd.R_drew)); exact HO_25.out) hb); have n6_ := Aside0.mk (below_step (by repeat (first | (with_reducible first | exact HB.out | apply below_alloc | apply pw_below_drewN | apply below_drew1) | exact HB.out)) hb); clear HO_15; clear HO_17; clear HO_19; clear HO_21; clear HO_23; clear HO_25; clear HB; have HO_15 := n0_; have HO_17 := n1_; have HO_19 := n2_; have HO_21 := n3_; have HO_23 := n4_; have HO_25 := n5_; have HB := n6_; clear n0_ n1_ n2_ n3_ n4_ n5_ n6_; (try clear hb); (try clear hb2); (try clear hk); (try clear hi)) | ((with_reducible refine gate_callee (f := 16) rfl ?_); refine goesL_ (some 261) rfl rfl Try.func16 (by kernel_rfl) rfl #[.int .i64 11, .int .i64 a0, .int .i64 a1, .int .i64 a2] rfl (by (try simp only [List.map_toArray, List.map_cons, List.map_nil]); first | done | rfl | (simp only [List.length_drop, List.length_take]; rfl)) ?_; (with_reducible refine (stereopsislaw01_do.calls k4 11 a0 a1 a2 t255 true _ A80.out).mono ?_); rintro e w93 ⟨rfl, hb⟩; refine ⟨_, rfl, ?_⟩; have n0_ := Aside0.mk (Kd.R_below (by (with_reducible repeat (first | apply Kd.R_alloc | apply Kd.R_drewN | apply Kd.R_drew)); exact HO_15.out) hb); have n1_ := Aside0.mk (Kd.R_below (by (with_reducible repeat (first | apply Kd.R_alloc | apply Kd.R_drewN | apply Kd.R_drew)); exact HO_17.out) hb); have n2_ := Aside0.mk (Kd.R_below (by (with_reducible repeat (first | apply Kd.R_alloc | apply Kd.R_drewN | apply Kd.R_drew)); exact HO_19.out) hb); have n3_ := Aside0.mk (Kd.R_below (by (with_reducible repeat (first | apply Kd.R_alloc | apply Kd.R_drewN | apply Kd.R_drew)); exact HO_21.out) hb); have n4_ := Aside0.mk (Kd.R_below (by (with_reducible repeat (first | apply Kd.R_alloc | apply Kd.R_drewN | apply Kd.R_drew)); exact HO_23.out) hb); have n5_ := Aside0.mk (Kd.R_below (by (with_reducible repeat (first | apply Kd.R_alloc | apply Kd.R_drewN | apply Kd.R_drew)); exact HO_25.out) hb); have n6_ := Aside0.mk (below_step (by repeat (first | (with_reducible first | exact HB.out | apply below_alloc | apply pw_below_drewN | apply below_drew1) | exact HB.out)) hb); clear HO_15; clear HO_17; clear HO_19; clear HO_21; clear HO_23; clear HO_25; clear HB; have HO_15 := n0_; have HO_17 := n1_; have HO_19 := n2_; have HO_21 := n3_; have HO_23 := n4_; have HO_25 := n5_; have HB := n6_; clear n0_ n1_ n2_ n3_ n4_ n5_ n6_; (try clear hb); (try clear hb2); (try clear hk); (try clear hi)) | ((with_reducible refine gate_callee (f := 19) rfl ?_); refine goesL_ (some 268) rfl rfl Try.func19 (by kernel_rfl) rfl #[.int .i64 a2] rfl (by (try simp only [List.map_toArray, List.map_cons, List.map_nil]); first | done | rfl | (simp only [List.length_drop, List.length_take]; rfl)) ?_; (with_reducible refine (stereopsisref01_Pow.calls k4 a2 t257 _ A81.out).mono ?_); rintro e w' ⟨rfl, ⟨nd, rfl⟩⟩; refine ⟨_, rfl, ?_⟩) | ((with_reducible refine gate_callee (f := 16) rfl ?_); refine goesL_ (some 269) rfl rfl Try.func16 (by kernel_rfl) rfl #[.int .i64 4, .int .i64 a0, .int .i64 a1, .int .i64 t257] rfl (by (try simp only [List.map_toArray, List.map_cons, List.map_nil]); first | done | rfl | (simp only [List.length_drop, List.length_take]; rfl)) ?_; (with_reducible refine (stereopsislaw01_do.calls k4 4 a0 a1 t257 t258 true _ A82.out).mono ?_); rintro e w94 ⟨rfl, hb⟩; refine ⟨_, rfl, ?_⟩; have n0_ := Aside0.mk (Kd.R_below (by (with_reducible repeat (first | apply Kd.R_alloc | apply Kd.R_drewN | apply Kd.R_drew)); exact HO_15.out) hb); have n1_ := Aside0.mk (Kd.R_below (by (with_reducible repeat (first | apply Kd.R_alloc | apply Kd.R_drewN | apply Kd.R_drew)); exact HO_17.out) hb); have n2_ := Aside0.mk (Kd.R_below (by (with_reducible repeat (first | apply Kd.R_alloc | apply Kd.R_drewN | apply Kd.R_drew)); exact HO_19.out) hb); have n3_ := Aside0.mk (Kd.R_below (by (with_reducible repeat (first | apply Kd.R_alloc | apply Kd.R_drewN | apply Kd.R_drew)); exact HO_21.out) hb); have n4_ := Aside0.mk (Kd.R_below (by (with_reducible repeat (first | apply Kd.R_alloc | apply Kd.R_drewN | apply Kd.R_drew)); exact HO_23.out) hb); have n5_ := Aside0.mk (Kd.R_below (by (with_reducible repeat (first | apply Kd.R_alloc | apply Kd.R_drewN | apply Kd.R_drew)); exact HO_25.out) hb); have n6_ := Aside0.mk (below_step (by repeat (first | (with_reducible first | exact HB.out | apply below_alloc | apply pw_below_drewN | apply below_drew1) | exact HB.out)) hb); clear HO_15; clear HO_17; clear HO_19; clear HO_21; clear HO_23; clear HO_25; clear HB; have HO_15 := n0_; have HO_17 := n1_; have HO_19 := n2_; have HO_21 := n3_; have HO_23 := n4_; have HO_25 := n5_; have HB := n6_; clear n0_ n1_ n2_ n3_ n4_ n5_ n6_; (try clear hb); (try clear hb2); (try clear hk); (try clear hi)) | ((with_reducible refine gate_callee (f := 19) rfl ?_); refine goesL_ (some 276) rfl rfl Try.func19 (by kernel_rfl) rfl #[.int .i64 a2] rfl (by (try simp only [List.map_toArray, List.map_cons, List.map_nil]); first | done | rfl | (simp only [List.length_drop, List.length_take]; rfl)) ?_; (with_reducible refine (stereopsisref01_Pow.calls k4 a2 t260 _ A83.out).mono ?_); rintro e w' ⟨rfl, ⟨nd, rfl⟩⟩; refine ⟨_, rfl, ?_⟩) | ((with_reducible refine gate_callee (f := 16) rfl ?_); refine goesL_ (some 277) rfl rfl Try.func16 (by kernel_rfl) rfl #[.int .i64 5, .int .i64 a0, .int .i64 a1, .int .i64 t260] rfl (by (try simp only [List.map_toArray, List.map_cons, List.map_nil]); first | done | rfl | (simp only [List.length_drop, List.length_take]; rfl)) ?_; (with_reducible refine (stereopsislaw01_do.calls k4 5 a0 a1 t260 t261 true _ A84.out).mono ?_); rintro e w95 ⟨rfl, hb⟩; refine ⟨_, rfl, ?_⟩; have n0_ := Aside0.mk (Kd.R_below (by (with_reducible repeat (first | apply Kd.R_alloc | apply Kd.R_drewN | apply Kd.R_drew)); exact HO_15.out) hb); have n1_ := Aside0.mk (Kd.R_below (by (with_reducible repeat (first | apply Kd.R_alloc | apply Kd.R_drewN | apply Kd.R_drew)); exact HO_17.out) hb); have n2_ := Aside0.mk (Kd.R_below (by (with_reducible repeat (first | apply Kd.R_alloc | apply Kd.R_drewN | apply Kd.R_drew)); exact HO_19.out) hb); have n3_ := Aside0.mk (Kd.R_below (by (with_reducible repeat (first | apply Kd.R_alloc | apply Kd.R_drewN | apply Kd.R_drew)); exact HO_21.out) hb); have n4_ := Aside0.mk (Kd.R_below (by (with_reducible repeat (first | apply Kd.R_alloc | apply Kd.R_drewN | apply Kd.R_drew)); exact HO_23.out) hb); have n5_ := Aside0.mk (Kd.R_below (by (with_reducible repeat (first | apply Kd.R_alloc | apply Kd.R_drewN | apply Kd.R_drew)); exact HO_25.out) hb); have n6_ := Aside0.mk (below_step (by repeat (first | (with_reducible first | exact HB.out | apply below_alloc | apply pw_below_drewN | apply below_drew1) | exact HB.out)) hb); clear HO_15; clear HO_17; clear HO_19; clear HO_21; clear HO_23; clear HO_25; clear HB; have HO_15 := n0_; have HO_17 := n1_; have HO_19 := n2_; have HO_21 := n3_; have HO_23 := n4_; have HO_25 := n5_; have HB := n6_; clear n0_ n1_ n2_ n3_ n4_ n5_ n6_; (try clear hb); (try clear hb2); (try clear hk); (try clear hi)) | (go_at_call 14; (with_reducible refine (stereopsislaw01_awake.calls k4  t263 _ A91.out).mono ?_); rintro e w96 ⟨rfl, hb⟩; have n0_ := Aside0.mk (Kd.R_below (by (with_reducible repeat (first | apply Kd.R_alloc | apply Kd.R_drewN | apply Kd.R_drew)); exact HO_15.out) hb); have n1_ := Aside0.mk (Kd.R_below (by (with_reducible repeat (first | apply Kd.R_alloc | apply Kd.R_drewN | apply Kd.R_drew)); exact HO_17.out) hb); have n2_ := Aside0.mk (Kd.R_below (by (with_reducible repeat (first | apply Kd.R_alloc | apply Kd.R_drewN | apply Kd.R_drew)); exact HO_19.out) hb); have n3_ := Aside0.mk (Kd.R_below (by (with_reducible repeat (first | apply Kd.R_alloc | apply Kd.R_drewN | apply Kd.R_drew)); exact HO_21.out) hb); have n4_ := Aside0.mk (Kd.R_below (by (with_reducible repeat (first | apply Kd.R_alloc | apply Kd.R_drewN | apply Kd.R_drew)); exact HO_23.out) hb); have n5_ := Aside0.mk (Kd.R_below (by (with_reducible repeat (first | apply Kd.R_alloc | apply Kd.R_drewN | apply Kd.R_drew)); exact HO_25.out) hb); have n6_ := Aside0.mk (below_step (by repeat (first | (with_reducible first | exact HB.out | apply below_alloc | apply pw_below_drewN | apply below_drew1) | exact HB.out)) hb); clear HO_15; clear HO_17; clear HO_19; clear HO_21; clear HO_23; clear HO_25; clear HB; have HO_15 := n0_; have HO_17 := n1_; have HO_19 := n2_; have HO_21 := n3_; have HO_23 := n4_; have HO_25 := n5_; have HB := n6_; clear n0_ n1_ n2_ n3_ n4_ n5_ n6_; (try clear hb); (try clear hb2); (try clear hk); (try clear hi)))
                                          go_ret
                                          exact ⟨by first | (rw [HX_.out]; done) | (simp [HX_.out]; done) | rfl | (simp [errW_none, errW_some] <;> rfl) | (simp [*, errW_none, errW_some] <;> rfl), by repeat (first | (with_reducible first | exact HB.out | apply below_alloc | apply pw_below_drewN | apply below_drew1) | exact HB.out)⟩
                                      · rw [if_neg c90] at H
                                        have c90b0 : (t255 == t261) = false := beq_eq_false_iff_ne.mpr c90
                                        have c90b1 : (t255 != t261) = true := bne_iff_ne.mpr c90
                                        as_aux_lemma =>
                                          exact absurd H (by simp)
                                    · rw [if_neg c89] at H
                                      have c89b0 : (t253 == t258) = false := beq_eq_false_iff_ne.mpr c89
                                      have c89b1 : (t253 != t258) = true := bne_iff_ne.mpr c89
                                      as_aux_lemma =>
                                        exact absurd H (by simp)
                                  · replace c88 := Bool.eq_false_iff.mpr c88
                                    subst c88
                                    have H1 : (some false) = some true := by rw [if_neg (show ¬ (false = true) by decide)] at H; exact H
                                    clear H
                                    have H := H1
                                    clear H1
                                    as_aux_lemma =>
                                      exact absurd H (by simp)
                                · replace c87 := Bool.eq_false_iff.mpr c87
                                  subst c87
                                  have H1 : (some false) = some true := by rw [if_neg (show ¬ (false = true) by decide)] at H; exact H
                                  clear H
                                  have H := H1
                                  clear H1
                                  as_aux_lemma =>
                                    exact absurd H (by simp)
                              · replace c86 := Bool.eq_false_iff.mpr c86
                                subst c86
                                have H1 : (some false) = some true := by rw [if_neg (show ¬ (false = true) by decide)] at H; exact H
                                clear H
                                have H := H1
                                clear H1
                                as_aux_lemma =>
                                  exact absurd H (by simp)
                            · replace c85 := Bool.eq_false_iff.mpr c85
                              subst c85
                              have H1 : (some false) = some true := by rw [if_neg (show ¬ (false = true) by decide)] at H; exact H
                              clear H
                              have H := H1
                              clear H1
                              as_aux_lemma =>
                                exact absurd H (by simp)

/-- THE ONE PURE STATEMENT of stereopsislaw01_WordShifts: yours. -/
def stereopsislaw01_WordShifts.Pure : Prop := ∀ (a0 : Int) (a1 : Int) (a2 : Int), (Lit.int .i64 a0).wf = true → (Lit.int .i64 a1).wf = true → (Lit.int .i64 a2).wf = true → ∃ k, stereopsislaw01_WordShifts.f k a0 a1 a2 = some true
theorem stereopsislaw01_WordShifts.walk (P : stereopsislaw01_WordShifts.Pure) (a0 : Int) (a1 : Int) (a2 : Int) (w : World) (w0 : (Lit.int .i64 a0).wf = true) (w1 : (Lit.int .i64 a1).wf = true) (w2 : (Lit.int .i64 a2).wf = true) :
    Calls Try.prog 5 #[.int .i64 a0, .int .i64 a1, .int .i64 a2] w fun e w' => e = .returned (.bool true) ∧ Below w.heap.size w w' := by
  obtain ⟨k, h⟩ := P a0 a1 a2 w0 w1 w2
  refine (stereopsislaw01_WordShifts.calls k a0 a1 a2 w h).mono ?_
  rintro e w' ⟨rfl, hd⟩
  exact ⟨rfl, hd⟩

end Go.Proofs.Ytcbglmdnfipgnaa.P
