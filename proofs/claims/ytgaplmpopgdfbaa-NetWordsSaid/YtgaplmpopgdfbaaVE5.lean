/- Goals: their cells and bits; words of bits. -/
import Derived.Test.YtgaplmpopgdfbaaHF
import Derived.Test.YtgaplmpopgdfbaaA6
import Derived.Test.YtgaplmpopgdfbaaVE4
import Derived.Test.YtgaplmpopgdfbaaVN5
namespace Go.Proofs.Ytgaplmpopgdfbaa.Hm.V
open Go
set_option linter.all false
set_option maxRecDepth 100000
attribute [local irreducible] X S R D W Call Upd Rds Rck Sees Res Cel CallP fnQ
def wordI (l : List Int) (w i : Nat) : Int := ofI ((l.drop (i * w)).take w) w
def wordsL (l : List Int) (w n : Nat) : List Int := (List.range n).map (wordI l w)
theorem wordsL_succ (l : List Int) (w n : Nat) : wordsL l w (n + 1) = wordsL l w n ++ [wordI l w n] := by unfold wordsL; rw [List.range_succ, List.map_append]; rfl
theorem wordsL_len (l : List Int) (w n : Nat) : (wordsL l w n).length = n := by unfold wordsL; simp
theorem mul_in {i n w k L : Nat} (hi : i < n) (hk : k < w) (h : n * w ≤ L) : i * w + k < L := by
  have h1 := Nat.mul_le_mul_right w (show i + 1 ≤ n from hi)
  rw [Nat.succ_mul] at h1
  omega
theorem row_get {l : List Int} {w i k n : Nat} (hi : i < n) (hk : k < w) (h : n * w ≤ l.length) : ((l.drop (i * w)).take w).getD k default = l.getD (i * w + k) default := by
  have h1 := mul_in hi hk h
  rw [List.getD_eq_getElem?_getD, List.getElem?_take_of_lt hk, List.getElem?_drop, List.getD_eq_getElem?_getD]
theorem or_add {a b : Int} {k : Nat} (h0 : 0 ≤ a) (h1 : a < 2 ^ k) (hb : b = 0 ∨ b = 1) : ((a.toNat ||| (b * 2 ^ k).toNat : Nat) : Int) = a + b * 2 ^ k := by
  have e1 : a = (a.toNat : Int) := (Int.toNat_of_nonneg h0).symm
  have h2 : a.toNat < 2 ^ k := by rw [pow_nat] at h1; omega
  rcases hb with rfl | rfl
  · rw [Int.zero_mul, Int.add_zero, show (0 : Int).toNat = 0 from rfl, Nat.or_zero]; exact e1.symm
  · rw [Int.one_mul, pow_nat, Int.toNat_natCast]
    have h3 := Nat.two_pow_add_eq_or_of_lt h2 1
    rw [Nat.mul_one] at h3
    rw [Nat.or_comm, ← h3]
    omega
/-- What a goal's cells and bits are bound by. -/
theorem goal_bd {w : Int} {vs : List Vr} {t : Et} (h : isGoal ⟨w, vs, t⟩) : 1 ≤ w ∧ w ≤ 8 ∧ 1 ≤ vs.length ∧ vs.length ≤ 64 ∧ 0 ≤ firstV vs vs.length ∧ firstV vs vs.length ≤ 512 ∧ 0 ≤ firstV vs vs.length * w ∧ firstV vs vs.length * w ≤ 4096 := by
  obtain ⟨⟨h1, h2⟩, h3, h4, h5, _⟩ := h
  dsimp only at h1 h2 h3 h4 h5
  obtain ⟨h6, h7⟩ := firstG_le h5 (Nat.le_refl _)
  refine ⟨h1, h2, h3, h4, h6, by omega, Int.mul_nonneg h6 (by omega), ?_⟩
  calc firstV vs vs.length * w ≤ firstV vs vs.length * 8 := Int.mul_le_mul_of_nonneg_left h2 h6
    _ ≤ 4096 := by omega
set_option maxHeartbeats 4000000 in
theorem Bits_ok (lo : Nat) {Z : Vw} {r : Value} {g : Gl} (hg : GlV Z r g) (hGo : isGoal g) : CallP F lo 16 [r] Z fun r _ => r = .int .i64 (firstV g.vs g.vs.length * g.w) := by
  obtain ⟨vv, op, n, c, v, ks, e, rfl, hv, hvl, htr⟩ := hg
  obtain ⟨w, vs, t⟩ := g
  dsimp only at e hv hvl htr hGo ⊢
  subst e
  have hG4 : ∀ i, i < vs.length → varG vs i := hGo.2.2.2.1
  have hgb := goal_bd hGo
  refine FnP (fn := c16) rfl rfl rfl ?_
  (refine W_seq ?_; (refine W_rgn ?_; ((refine Ra rfl (xBox rfl (fun b1 => ?_))) <;> (refine Ra rfl (X_mv rfl ?_)) <;> (refine R_nil ?_))) <;> (first | refine thenQ_ret ?_ | refine thenQ_ext ?_ | (refine thenQ_nrm ?_; (refine W_seq ?_; (refine W_drw ?_; ((refine Da rfl rfl (X_faddr rfl ?_)) <;> (first | (refine Da rfl rfl (X_load (lB rfl rfl) ?_)) | (refine Da rfl rfl (X_load (lB rfl (cS_at0 (by omega))) ?_)) | (refine Da rfl rfl (X_load (lE rfl (by omega) (cS_at1 (by omega))) ?_)) | (refine Da rfl rfl (X_load (lE0 rfl (by omega) rfl) ?_)) | (refine Da rfl rfl (X_load (lE rfl (by omega) rfl) ?_)) | (refine Da rfl rfl (X_load (lX0 rfl (by assumption) rfl) ?_)) | (refine Da rfl rfl (X_load (lX rfl (by assumption) rfl) ?_))) <;> (refine Da rfl rfl (X_faddr rfl ?_)) <;> (first | (refine Da rfl rfl (X_load (lB rfl rfl) ?_)) | (refine Da rfl rfl (X_load (lB rfl (cS_at0 (by omega))) ?_)) | (refine Da rfl rfl (X_load (lE rfl (by omega) (cS_at1 (by omega))) ?_)) | (refine Da rfl rfl (X_load (lE0 rfl (by omega) rfl) ?_)) | (refine Da rfl rfl (X_load (lE rfl (by omega) rfl) ?_)) | (refine Da rfl rfl (X_load (lX0 rfl (by assumption) rfl) ?_)) | (refine Da rfl rfl (X_load (lX rfl (by assumption) rfl) ?_))) <;> (refine Da rfl rfl (X_faddr rfl ?_)) <;> (first | (refine Da rfl rfl (X_load (lB rfl rfl) ?_)) | (refine Da rfl rfl (X_load (lB rfl (cS_at0 (by omega))) ?_)) | (refine Da rfl rfl (X_load (lE rfl (by omega) (cS_at1 (by omega))) ?_)) | (refine Da rfl rfl (X_load (lE0 rfl (by omega) rfl) ?_)) | (refine Da rfl rfl (X_load (lE rfl (by omega) rfl) ?_)) | (refine Da rfl rfl (X_load (lX0 rfl (by assumption) rfl) ?_)) | (refine Da rfl rfl (X_load (lX rfl (by assumption) rfl) ?_))) <;> (first | (refine Da rfl rfl (X_len0 rfl ?_)) | (refine Da rfl rfl (xLen rfl ?_)) | (refine Da rfl rfl (xLenX rfl ?_))) <;> (refine D_consR rfl (S_do rfl (xP (FirstG_ok lo _ (by omega) (by omega) (by omega) hG4) rfl (fun _ Z10 hz10 hq => ⟨(by (first | refine rDo rfl rfl (lB rfl rfl) ?_ | refine rDo rfl rfl (lB rfl (cS_at0 (by omega))) ?_ | refine rDo rfl rfl (lE rfl (by omega) (cS_at1 (by omega))) ?_ | refine rDo rfl rfl (lE0 rfl (by omega) rfl) ?_ | refine rDo rfl rfl (lE rfl (by omega) rfl) ?_ | refine rDo rfl rfl (lX0 rfl (by assumption) rfl) ?_ | refine rDo rfl rfl (lX rfl (by assumption) rfl) ?_); exact Rck_nil), ?_⟩))); (subst hq)) <;> (refine Da rfl rfl (X_mulI rfl rfl (by rw [Int.mul_comm]; omega) (by rw [Int.mul_comm]; omega) ?_)) <;> (refine Da rfl rfl (X_mv rfl ?_)) <;> (refine D_nil ?_))) <;> (first | refine thenQ_ret ?_ | refine thenQ_ext ?_ | (refine thenQ_nrm ?_; (refine W_ret ?_)))))))
  <;> (first | refine fnP_ret (Res.tmp rfl Res.nil) ?_ | refine fnP_nrm (Res.tmp rfl Res.nil) ?_)
  all_goals (rw [Int.mul_comm]; rfl)
set_option maxHeartbeats 4000000 in
theorem Cells_ok (lo : Nat) {Z : Vw} {r : Value} {g : Gl} (hg : GlV Z r g) (hGo : isGoal g) : CallP F lo 64 [r] Z fun r _ => r = .int .i64 (firstV g.vs g.vs.length) := by
  obtain ⟨vv, op, n, c, v, ks, e, rfl, hv, hvl, htr⟩ := hg
  obtain ⟨w, vs, t⟩ := g
  dsimp only at e hv hvl htr hGo ⊢
  subst e
  have hG4 : ∀ i, i < vs.length → varG vs i := hGo.2.2.2.1
  have hgb := goal_bd hGo
  refine FnP (fn := c64) rfl rfl rfl ?_
  (refine W_seq ?_; (refine W_rgn ?_; ((refine Ra rfl (xBox rfl (fun b1 => ?_))) <;> (refine Ra rfl (X_mv rfl ?_)) <;> (refine R_nil ?_))) <;> (first | refine thenQ_ret ?_ | refine thenQ_ext ?_ | (refine thenQ_nrm ?_; (refine W_seq ?_; (refine W_rgn ?_; ((refine Ra rfl (X_faddr rfl ?_)) <;> (first | (refine Ra rfl (X_load (lB rfl rfl) ?_)) | (refine Ra rfl (X_load (lB rfl (cS_at0 (by omega))) ?_)) | (refine Ra rfl (X_load (lE rfl (by omega) (cS_at1 (by omega))) ?_)) | (refine Ra rfl (X_load (lE0 rfl (by omega) rfl) ?_)) | (refine Ra rfl (X_load (lE rfl (by omega) rfl) ?_)) | (refine Ra rfl (X_load (lX0 rfl (by assumption) rfl) ?_)) | (refine Ra rfl (X_load (lX rfl (by assumption) rfl) ?_))) <;> (refine Ra rfl (X_faddr rfl ?_)) <;> (first | (refine Ra rfl (X_load (lB rfl rfl) ?_)) | (refine Ra rfl (X_load (lB rfl (cS_at0 (by omega))) ?_)) | (refine Ra rfl (X_load (lE rfl (by omega) (cS_at1 (by omega))) ?_)) | (refine Ra rfl (X_load (lE0 rfl (by omega) rfl) ?_)) | (refine Ra rfl (X_load (lE rfl (by omega) rfl) ?_)) | (refine Ra rfl (X_load (lX0 rfl (by assumption) rfl) ?_)) | (refine Ra rfl (X_load (lX rfl (by assumption) rfl) ?_))) <;> (first | (refine Ra rfl (X_len0 rfl ?_)) | (refine Ra rfl (xLen rfl ?_)) | (refine Ra rfl (xLenX rfl ?_))) <;> (refine Ra rfl (xP (FirstG_ok lo _ (by omega) (by omega) (by omega) hG4) rfl (fun _ Z8 hz8 hq => ?_)); (subst hq)) <;> (refine Ra rfl (X_mv rfl ?_)) <;> (refine R_nil ?_))) <;> (first | refine thenQ_ret ?_ | refine thenQ_ext ?_ | (refine thenQ_nrm ?_; (refine W_ret ?_)))))))
  <;> (first | refine fnP_ret (Res.tmp rfl Res.nil) ?_ | refine fnP_nrm (Res.tmp rfl Res.nil) ?_)
  all_goals rfl
set_option maxHeartbeats 4000000 in
theorem RWords_ok (lo : Nat) {Z : Vw} {r vm : Value} {g : Gl} {m : List Int} (hg : GlV Z r g) (hGo : isGoal g) [hm : IntsL Z vm m] (hlen : m.length < 9223372036854775808) (hml : (firstV g.vs g.vs.length).toNat * g.w.toNat ≤ m.length) (hdm : digs (m.take ((firstV g.vs g.vs.length).toNat * g.w.toNat))) : Call F lo 36 [r, vm] Z [] fun r _ O' => O' = [.gro r 1 ((wordsL m g.w.toNat (firstV g.vs g.vs.length).toNat).map cI)] := by
  obtain ⟨vv, op, n, c, v, ks, e, rfl, hv, hvl, htr⟩ := hg
  obtain ⟨w, vs, t⟩ := g
  dsimp only at e hv hvl htr hGo hml hdm ⊢
  subst e
  have hG4 : ∀ i, i < vs.length → varG vs i := hGo.2.2.2.1
  have hgb := goal_bd hGo
  have hm := hm.out
  refine Fn (fn := c36) rfl rfl rfl ?_
  (refine W_seq ?_; (refine W_rgn ?_; ((refine Ra rfl (xBox rfl (fun b2 => ?_))) <;> (refine Ra rfl (X_mv rfl ?_)) <;> (refine R_nil ?_))) <;> (first | refine thenQ_ret ?_ | refine thenQ_ext ?_ | (refine thenQ_nrm ?_; (refine W_seq ?_; (refine W_rgn ?_; ((refine Ra rfl (X_mv rfl ?_)) <;> (refine R_nil ?_))) <;> (first | refine thenQ_ret ?_ | refine thenQ_ext ?_ | (refine thenQ_nrm ?_; (refine W_seq ?_; (refine W_seq ?_; (refine W_rgn ?_; ((refine Ra rfl (X_mv rfl ?_)) <;> (refine R_nil ?_))) <;> (first | refine thenQ_ret ?_ | refine thenQ_ext ?_ | (refine thenQ_nrm ?_; (refine W_block ?_; ((
      refine wLoop (fun (p : Nat × Value) => match p with | (i, vl) => [(6, .int .i64 (i : Nat)), (5, vl)]) (fun p => match p with | (i, vl) => [.box b2 [.int .i64 w, vv, .int .i64 op, .int .i64 n, .int .i64 c, v], .gro vl 1 ((wordsL m w.toNat i).map cI)]) (fun p _ => match p with | (i, _) => i ≤ (firstV vs vs.length).toNat) (fun p => match p with | (i, _) => (firstV vs vs.length).toNat - i) (0, .slice none 0 0) (by repeat' (first | exact trivial | exact rfl | constructor)) (Upd.gro0 (e := 1) (by decide) (Upd.done ⟨Nat.zero_le _, hB rfl (hG rfl Has.nil)⟩)) ?_
      rintro ⟨i, vl⟩ Z1 hz1 hi
      have hi : i ≤ (firstV vs vs.length).toNat := hi
      have hwn : ((w.toNat : Nat) : Int) = w := Int.toNat_of_nonneg (by omega)
      have hnm : (firstV vs vs.length).toNat * w.toNat ≤ m.length := hml
      have hmi : i < (firstV vs vs.length).toNat → ∀ k, k < w.toNat → i * w.toNat + k < m.length := fun h k hk => mul_in h hk hnm
      have hrw : ∀ k, k < w.toNat → i < (firstV vs vs.length).toNat → ((m.drop (i * w.toNat)).take w.toNat).getD k default = m.getD (i * w.toNat + k) default := fun k hk h => row_get h hk hnm
      have hcast : (i : Int) * w = ((i * w.toNat : Nat) : Int) := by rw [Int.natCast_mul, hwn]
      have hdg : ∀ j, j < (firstV vs vs.length).toNat * w.toNat → dig (m.getD j default) := fun j hj => (by
        have q := hdm.at (i := j) (by rw [List.length_take]; omega)
        rwa [List.getD_eq_getElem?_getD, List.getElem?_take_of_lt hj, ← List.getD_eq_getElem?_getD] at q)
      have hdk : i < (firstV vs vs.length).toNat → ∀ k, k < w.toNat → dig (m.getD (i * w.toNat + k) default) := fun h k hk => hdg _ (mul_in h hk (Nat.le_refl _))
      have hwm : i < (firstV vs vs.length).toNat → i * w.toNat + w.toNat ≤ m.length := fun h => (by have q := hmi h (w.toNat - 1) (by omega); omega)
      have hrl : i < (firstV vs vs.length).toNat → ((m.drop (i * w.toNat)).take w.toNat).length = w.toNat := fun h => (by have := hwm h; rw [List.length_take, List.length_drop]; omega)
      have hrd : i < (firstV vs vs.length).toNat → ∀ k, k < ((m.drop (i * w.toNat)).take w.toNat).length → 0 ≤ ((m.drop (i * w.toNat)).take w.toNat).getD k default ∧ ((m.drop (i * w.toNat)).take w.toNat).getD k default ≤ 1 := fun h k hk => (by
        rw [hrl h] at hk
        rw [hrw k hk h]
        have q := hdk h k hk
        unfold dig at q
        omega)
      have hiw : i < (firstV vs vs.length).toNat → 0 ≤ (i : Int) * w ∧ (i : Int) * w ≤ 4096 := fun h => (by
        rw [hcast]
        have q1 := mul_in h (show 0 < w.toNat by omega) (Nat.le_refl _)
        have q2 : (((firstV vs vs.length).toNat * w.toNat : Nat) : Int) = firstV vs vs.length * w := by rw [Int.natCast_mul, hwn, Int.toNat_of_nonneg hgb.2.2.2.2.1]
        omega)
      obtain ⟨g1, g2, g3, g4, g5, g6, g7, g8⟩ := hgb) <;> (refine W_seq ?_; (refine W_seq ?_; (refine W_rgn ?_; ((refine Ra rfl (X_mv rfl ?_)) <;> (first | (refine Ra rfl (X_load (lBA rfl rfl) ?_)) | (refine Ra rfl (X_load (lEA rfl (by omega)) ?_)) | (refine Ra rfl (X_load (lEP rfl (by omega) rfl) ?_)) | (refine Ra rfl (X_load (lXA rfl (by assumption)) ?_)) | (refine Ra rfl (X_load (lBP rfl rfl) ?_))) <;> (refine Ra rfl (xP (show CallP F lo 64 [_] _ (fun r _ => r = .int .i64 (firstV vs vs.length)) from Cells_ok lo (g := ⟨w, vs, .mk op n c v ks⟩) ⟨vv, op, n, c, v, ks, rfl, rfl, Fz.le hv ZC.le, hvl, Tr.le ZC.le htr⟩ hGo) rfl (fun _ Z9 hz9 hq => ?_)); (subst hq)) <;> (refine Ra rfl (X_lss rfl rfl (fun _ => ?_) (fun _ => ?_))) <;> (refine R_nil ?_))) <;> (first | refine thenQ_ret ?_ | refine thenQ_ext ?_ | (refine thenQ_nrm ?_; (refine W_cond rfl (fun ht => ?_) (fun ht => ?_) <;> (first | exact absurd ht (by decide) | (refine W_skip ?_) | (refine W_exit ?_)))))) <;> (first | refine thenQ_ret ?_ | refine thenQ_ext ?_ | (refine thenQ_nrm ?_; (refine W_seq ?_; (refine W_block ?_; (refine W_rgn ?_; ((refine Ra rfl (X_mv rfl ?_)) <;> (refine Ra rfl (X_mv rfl ?_)) <;> (refine Ra rfl (X_mv rfl ?_)) <;> (refine Ra rfl (X_faddr rfl ?_)) <;> (first | (refine Ra rfl (X_load (lB rfl rfl) ?_)) | (refine Ra rfl (X_load (lB rfl (cS_at0 (by omega))) ?_)) | (refine Ra rfl (X_load (lE rfl (by omega) (cS_at1 (by omega))) ?_)) | (refine Ra rfl (X_load (lE0 rfl (by omega) rfl) ?_)) | (refine Ra rfl (X_load (lE rfl (by omega) rfl) ?_)) | (refine Ra rfl (X_load (lX0 rfl (by assumption) rfl) ?_)) | (refine Ra rfl (X_load (lX rfl (by assumption) rfl) ?_))) <;> (refine Ra rfl (X_mulI rfl rfl (by have := hiw (by omega); omega) (by have := hiw (by omega); omega) ?_)) <;> (refine Ra rfl (X_mv rfl ?_)) <;> (refine Ra rfl (X_faddr rfl ?_)) <;> (first | (refine Ra rfl (X_load (lB rfl rfl) ?_)) | (refine Ra rfl (X_load (lB rfl (cS_at0 (by omega))) ?_)) | (refine Ra rfl (X_load (lE rfl (by omega) (cS_at1 (by omega))) ?_)) | (refine Ra rfl (X_load (lE0 rfl (by omega) rfl) ?_)) | (refine Ra rfl (X_load (lE rfl (by omega) rfl) ?_)) | (refine Ra rfl (X_load (lX0 rfl (by assumption) rfl) ?_)) | (refine Ra rfl (X_load (lX rfl (by assumption) rfl) ?_))) <;> (refine Ra rfl (X_mulI rfl rfl (by have := hiw (by omega); omega) (by have := hiw (by omega); omega) ?_)) <;> (refine Ra rfl (X_faddr rfl ?_)) <;> (first | (refine Ra rfl (X_load (lB rfl rfl) ?_)) | (refine Ra rfl (X_load (lB rfl (cS_at0 (by omega))) ?_)) | (refine Ra rfl (X_load (lE rfl (by omega) (cS_at1 (by omega))) ?_)) | (refine Ra rfl (X_load (lE0 rfl (by omega) rfl) ?_)) | (refine Ra rfl (X_load (lE rfl (by omega) rfl) ?_)) | (refine Ra rfl (X_load (lX0 rfl (by assumption) rfl) ?_)) | (refine Ra rfl (X_load (lX rfl (by assumption) rfl) ?_))) <;> (first | (refine Ra rfl (X_addI rfl rfl (by omega) (by omega) ?_)) | (refine Ra rfl (X_bin rfl rfl rfl ?_))) <;> (refine Ra rfl (xSl (fz := hm) rfl (.inr ⟨_, _, _, rfl, rfl, (hiw (by omega)).1, rfl⟩) (.inr ⟨_, _, _, rfl, rfl, (by have := hiw (by omega); omega), rfl⟩) (by omega) (by rw [List.length_map]; have := hwm (by omega); rw [hcast]; omega) (fun v26 hf26 => ?_)); (rw [← List.map_drop, ← List.map_take, hcast, Int.toNat_natCast, show ((((i * w.toNat : Nat) : Int) + w).toNat - i * w.toNat) = w.toNat by omega] at hf26)) <;> (refine Ra rfl (xP (haveI := hf26; ROf_ok lo (l := (m.drop (i * w.toNat)).take w.toNat) (by rw [hrl (by omega)]; omega) (hrd (by omega))) rfl (fun _ Z27 hz27 hq => ?_)); (subst hq; rw [hrl (by omega)])) <;> (refine Ra rfl (X_bsliceC (pCons rfl Parts.nil) rfl rfl rfl (fun v28 => ?_))) <;> (refine Ra rfl (xApGm (fe := cI) (wordI m w.toNat i) rfl rfl rfl (by rw [wordsL_len]; omega) (fun v29 => ?_))) <;> (refine Ra rfl (X_mv rfl ?_)) <;> (refine R_nil ?_))) <;> (first | refine blockQ_nrm ?_ | refine blockQ_ret ?_ | refine blockQ_ext ?_ | refine blockQ_far rfl ?_)) <;> (first | refine thenQ_ret ?_ | refine thenQ_ext ?_ | (refine thenQ_nrm ?_; (refine W_rgn ?_; ((refine Ra rfl (X_mv rfl ?_)) <;> (first | (refine Ra rfl (X_addI rfl rfl (by omega) (by omega) ?_)) | (refine Ra rfl (X_bin rfl rfl rfl ?_))) <;> (refine Ra rfl (X_mv rfl ?_)) <;> (refine R_nil ?_))))))))) <;> (first | refine thenQ_ret ?_ | refine thenQ_ext ?_ | (refine thenQ_nrm ?_; (
        refine Upd.done ⟨(i + 1, _), ?_, ?_, (by repeat' (first | exact trivial | exact rfl | constructor)), hB rfl (hG (congrArg (List.map cI) (wordsL_succ _ _ _).symm) Has.nil)⟩
        · show (firstV vs vs.length).toNat - (i + 1) < (firstV vs vs.length).toNat - i
          omega
        · show i + 1 ≤ (firstV vs vs.length).toNat
          omega)))) <;> (first | refine blockQ_nrm ?_ | refine blockQ_ret ?_ | refine blockQ_ext ?_ | refine blockQ_far rfl ?_))))) <;> (first | refine thenQ_ret ?_ | refine thenQ_ext ?_ | (refine thenQ_nrm ?_; (refine W_seq ?_; (refine W_rgn ?_; ((refine Ra rfl (X_mv rfl ?_)) <;> (refine Ra rfl (X_mv rfl ?_)) <;> (refine R_nil ?_))) <;> (first | refine thenQ_ret ?_ | refine thenQ_ext ?_ | (refine thenQ_nrm ?_; (refine W_ret ?_)))))))))))))
  <;> (first | refine fn_ret (Res.tmp rfl Res.nil) ?_ | refine fn_nrm (Res.tmp rfl Res.nil) ?_)
  all_goals
    have hi2 : i = (firstV vs vs.length).toNat := by omega
    subst hi2
    dsimp only [tupled]
    exact Upd.has (hG rfl Has.nil) rfl
theorem toNat_mul2 {a b : Int} (ha : 0 ≤ a) (hb : 0 ≤ b) : (a * b).toNat = a.toNat * b.toNat := by
  have h := Int.mul_nonneg ha hb
  have e1 := Int.toNat_of_nonneg ha
  have e2 := Int.toNat_of_nonneg hb
  have e3 : ((a.toNat * b.toNat : Nat) : Int) = a * b := by rw [Int.natCast_mul, e1, e2]
  omega
def nwQ (Z : Vw) (g : Gl) (m : List Int) (r : Value) : Prop := (¬ isGoal g ∧ r = .tuple ⟨[.slice none 0 0, .int .i64 20]⟩) ∨ (isGoal g ∧ ¬ (firstV g.vs g.vs.length * g.w ≤ m.length ∧ digs (m.take (firstV g.vs g.vs.length * g.w).toNat)) ∧ r = .tuple ⟨[.slice none 0 0, .int .i64 1]⟩) ∨ (isGoal g ∧ firstV g.vs g.vs.length * g.w ≤ m.length ∧ digs (m.take (firstV g.vs g.vs.length * g.w).toNat) ∧ ∃ v, r = .tuple ⟨[v, .int .i64 0]⟩ ∧ Fz Z 1 v ((wordsL m g.w.toNat (firstV g.vs g.vs.length).toNat).map cI))
set_option maxHeartbeats 4000000 in
theorem NWords_ok (lo : Nat) {Z : Vw} {r vm : Value} {g : Gl} {m : List Int} (hg : GlV Z r g) [hm : IntsL Z vm m] (hlen : m.length < 9223372036854775808) : CallP F lo 34 [r, vm] Z fun r Z' => nwQ Z' g m r := by
  obtain ⟨vv, op, n, c, v, ks, e, rfl, hv, hvl, htr⟩ := hg
  obtain ⟨w, vs, t⟩ := g
  dsimp only at e hv hvl htr ⊢
  subst e
  have hm := hm.out
  refine FnP (fn := c34) rfl rfl rfl ?_
  (refine W_seq ?_; (refine W_rgn ?_; ((refine Ra rfl (xBox rfl (fun b2 => ?_))) <;> (refine Ra rfl (X_mv rfl ?_)) <;> (refine Ra rfl (X_mv rfl ?_)) <;> (refine R_nil ?_))) <;> (first | refine thenQ_ret ?_ | refine thenQ_ext ?_ | (refine thenQ_nrm ?_; (refine W_seq ?_; (refine W_seq ?_; (refine W_rgn ?_; ((first | (refine Ra rfl (X_load (lBA rfl rfl) ?_)) | (refine Ra rfl (X_load (lEA rfl (by omega)) ?_)) | (refine Ra rfl (X_load (lEP rfl (by omega) rfl) ?_)) | (refine Ra rfl (X_load (lXA rfl (by assumption)) ?_)) | (refine Ra rfl (X_load (lBP rfl rfl) ?_))) <;> (refine Ra rfl (xP (WCheck_ok lo (g := ⟨w, vs, .mk op n c v ks⟩) ⟨vv, op, n, c, v, ks, rfl, rfl, Fz.le hv ZC.le, hvl, Tr.le ZC.le htr⟩) rfl (fun _ Z13 hz13 hq => ?_)); (obtain ⟨e13, rfl, hq13⟩ := hq; rcases hq13 with ⟨rfl, hGo⟩ | ⟨rfl, hGo⟩; (have hG4 : ∀ i, i < vs.length → varG vs i := hGo.2.2.2.1; have hgb := goal_bd hGo; have hgc := hgb; obtain ⟨g1, g2, g3, g4, g5, g6, g7, g8⟩ := hgc); rotate_left)) <;> (refine Ra rfl (X_mv rfl ?_)) <;> (refine R_nil ?_))) <;> (first | refine thenQ_ret ?_ | refine thenQ_ext ?_ | (refine thenQ_nrm ?_; (refine W_seq ?_; (refine W_rgn ?_; ((refine Ra rfl (X_mv rfl ?_)) <;> (first | (refine Ra rfl (X_bin (v := .bool true) rfl rfl rfl ?_)) | (refine Ra rfl (X_bin (v := .bool false) rfl rfl rfl ?_)) | (refine Ra rfl (X_neq rfl rfl (fun _ => ?_) (fun _ => ?_))) | (refine Ra rfl (xNeL rfl rfl (fun _ => ?_) (fun _ => ?_))) | (refine Ra rfl (X_bin rfl rfl rfl ?_))) <;> (refine R_nil ?_))) <;> (first | refine thenQ_ret ?_ | refine thenQ_ext ?_ | (refine thenQ_nrm ?_; (refine W_cond rfl (fun ht => ?_) (fun ht => ?_) <;> (first | exact absurd ht (by decide) | (refine W_seq ?_; (refine W_rgn ?_; ((refine Ra rfl (X_mv rfl ?_)) <;> (refine Ra rfl (X_mv rfl ?_)) <;> (refine Ra rfl (X_mv rfl ?_)) <;> (refine R_nil ?_))) <;> (first | refine thenQ_ret ?_ | refine thenQ_ext ?_ | (refine thenQ_nrm ?_; (refine W_ret ?_)))) | (refine W_skip ?_))))))))) <;> (first | refine thenQ_ret ?_ | refine thenQ_ext ?_ | (refine thenQ_nrm ?_; (refine W_seq ?_; (refine W_rgn ?_; ((refine Ra rfl (X_faddr rfl ?_)) <;> (first | (refine Ra rfl (X_load (lB rfl rfl) ?_)) | (refine Ra rfl (X_load (lB rfl (cS_at0 (by omega))) ?_)) | (refine Ra rfl (X_load (lE rfl (by omega) (cS_at1 (by omega))) ?_)) | (refine Ra rfl (X_load (lE0 rfl (by omega) rfl) ?_)) | (refine Ra rfl (X_load (lE rfl (by omega) rfl) ?_)) | (refine Ra rfl (X_load (lX0 rfl (by assumption) rfl) ?_)) | (refine Ra rfl (X_load (lX rfl (by assumption) rfl) ?_))) <;> (refine Ra rfl (xP (WCells_ok lo (by omega) (by assumption)) rfl (fun _ Z19 hz19 hq => ?_)); (subst hq)) <;> (refine Ra rfl (X_mv rfl ?_)) <;> (refine R_nil ?_))) <;> (first | refine thenQ_ret ?_ | refine thenQ_ext ?_ | (refine thenQ_nrm ?_; (refine W_seq ?_; (refine W_seq ?_; (refine W_rgn ?_; ((refine Ra rfl (X_mv rfl ?_)) <;> (first | (refine Ra rfl (X_len0 rfl ?_)) | (refine Ra rfl (xLen rfl ?_)) | (refine Ra rfl (xLenX rfl ?_))) <;> (refine Ra rfl (X_mv rfl ?_)) <;> (refine Ra rfl (X_faddr rfl ?_)) <;> (first | (refine Ra rfl (X_load (lB rfl rfl) ?_)) | (refine Ra rfl (X_load (lB rfl (cS_at0 (by omega))) ?_)) | (refine Ra rfl (X_load (lE rfl (by omega) (cS_at1 (by omega))) ?_)) | (refine Ra rfl (X_load (lE0 rfl (by omega) rfl) ?_)) | (refine Ra rfl (X_load (lE rfl (by omega) rfl) ?_)) | (refine Ra rfl (X_load (lX0 rfl (by assumption) rfl) ?_)) | (refine Ra rfl (X_load (lX rfl (by assumption) rfl) ?_))) <;> (first | (refine Ra rfl (X_mulI rfl rfl (by first | omega | assumption) (by first | omega | assumption) ?_)) | (refine Ra rfl (X_bin rfl rfl rfl ?_))) <;> (refine Ra rfl (X_lss rfl rfl (fun _ => ?_) (fun _ => ?_))) <;> (refine Ra rfl (X_mv rfl ?_)) <;> (first | (refine Rb rfl rfl (X_mv rfl ?_)) | (refine Rc rfl rfl ?_) | (refine Rd rfl rfl ?_)) <;> (first | (refine Rb rfl rfl (X_mv rfl ?_)) | (refine Rc rfl rfl ?_) | (refine Rd rfl rfl ?_)) <;> (first | (refine Rb rfl rfl (X_faddr rfl ?_)) | (refine Rc rfl rfl ?_) | (refine Rd rfl rfl ?_)) <;> (first | (refine Rb rfl rfl (X_load (lB rfl rfl) ?_)) | (refine Rb rfl rfl (X_load (lB rfl (cS_at0 (by omega))) ?_)) | (refine Rb rfl rfl (X_load (lE rfl (by omega) (cS_at1 (by omega))) ?_)) | (refine Rb rfl rfl (X_load (lE0 rfl (by omega) rfl) ?_)) | (refine Rb rfl rfl (X_load (lE rfl (by omega) rfl) ?_)) | (refine Rb rfl rfl (X_load (lX0 rfl (by assumption) rfl) ?_)) | (refine Rb rfl rfl (X_load (lX rfl (by assumption) rfl) ?_)) | (refine Rc rfl rfl ?_) | (refine Rd rfl rfl ?_)) <;> (first | (refine Rb rfl rfl (X_mulI rfl rfl (by first | omega | assumption) (by first | omega | assumption) ?_)) | (refine Rb rfl rfl (X_bin rfl rfl rfl ?_)) | (refine Rc rfl rfl ?_) | (refine Rd rfl rfl ?_)) <;> (first | (refine Rb rfl rfl (xSlT rfl rfl (by omega) (by omega) (fun v33 hf33 => ?_))) | (refine Rc rfl rfl ?_) | (refine Rd rfl rfl ?_)) <;> (first | (refine Rb rfl rfl (xP (haveI := hf33; bits_ok lo (by rw [List.length_take]; omega)) rfl (fun _ Z34 hz34 hq => ?_)); (obtain ⟨b34, rfl, hb34⟩ := hq; cases b34 <;> simp only [Bool.false_eq_true, false_iff, true_iff] at hb34)) | (refine Rc rfl rfl ?_) | (refine Rd rfl rfl ?_)) <;> (first | (refine Rb rfl rfl (X_not rfl ?_)) | (refine Rc rfl rfl ?_) | (refine Rd rfl rfl ?_)) <;> (first | (refine Ra rfl (X_pickT rfl rfl ?_)) | (refine Ra rfl (X_pickF rfl rfl ?_)) | (refine Ra rfl (X_pick rfl rfl rfl ?_))) <;> (refine R_nil ?_))) <;> (first | refine thenQ_ret ?_ | refine thenQ_ext ?_ | (refine thenQ_nrm ?_; (refine W_cond rfl (fun ht => ?_) (fun ht => ?_) <;> (first | exact absurd ht (by decide) | (refine W_seq ?_; (refine W_rgn ?_; ((refine Ra rfl (X_mv rfl ?_)) <;> (refine Ra rfl (X_mv rfl ?_)) <;> (refine R_nil ?_))) <;> (first | refine thenQ_ret ?_ | refine thenQ_ext ?_ | (refine thenQ_nrm ?_; (refine W_ret ?_)))) | (refine W_skip ?_)))))) <;> (first | refine thenQ_ret ?_ | refine thenQ_ext ?_ | (refine thenQ_nrm ?_; (refine W_seq ?_; (refine W_rgn ?_; ((refine Ra rfl (X_mv rfl ?_)) <;> (refine R_nil ?_))) <;> (first | refine thenQ_ret ?_ | refine thenQ_ext ?_ | (refine thenQ_nrm ?_; (refine W_seq ?_; (refine W_seq ?_; (refine W_rgn ?_; ((refine Ra rfl (X_mv rfl ?_)) <;> (refine Ra rfl (X_mv rfl ?_)) <;> (refine R_nil ?_))) <;> (first | refine thenQ_ret ?_ | refine thenQ_ext ?_ | (refine thenQ_nrm ?_; (refine W_block ?_; ((
      refine wLoop (fun (p : Nat × Value) => match p with | (i, vl) => [(38, .int .i64 (i : Nat)), (8, vl)]) (fun p => match p with | (i, vl) => [.box b2 [.int .i64 w, vv, .int .i64 op, .int .i64 n, .int .i64 c, v], .gro vl 1 ((wordsL m w.toNat i).map cI)]) (fun p _ => match p with | (i, _) => i ≤ (firstV vs vs.length).toNat) (fun p => match p with | (i, _) => (firstV vs vs.length).toNat - i) (0, .slice none 0 0) (by repeat' (first | exact trivial | exact rfl | constructor)) (Upd.gro0 (e := 1) (by decide) (Upd.done ⟨Nat.zero_le _, hB rfl (hG rfl Has.nil)⟩)) ?_
      rintro ⟨i, vl⟩ Z1 hz1 hi
      have hi : i ≤ (firstV vs vs.length).toNat := hi
      have hjw : (firstV vs vs.length * w).toNat = (firstV vs vs.length).toNat * w.toNat := toNat_mul2 g5 (by omega)
      have hml : (firstV vs vs.length).toNat * w.toNat ≤ m.length := by omega
      have hdm : digs (m.take ((firstV vs vs.length).toNat * w.toNat)) := by rw [← hjw]; exact hb34
      have hwn : ((w.toNat : Nat) : Int) = w := Int.toNat_of_nonneg (by omega)
      have hnm : (firstV vs vs.length).toNat * w.toNat ≤ m.length := hml
      have hmi : i < (firstV vs vs.length).toNat → ∀ k, k < w.toNat → i * w.toNat + k < m.length := fun h k hk => mul_in h hk hnm
      have hrw : ∀ k, k < w.toNat → i < (firstV vs vs.length).toNat → ((m.drop (i * w.toNat)).take w.toNat).getD k default = m.getD (i * w.toNat + k) default := fun k hk h => row_get h hk hnm
      have hcast : (i : Int) * w = ((i * w.toNat : Nat) : Int) := by rw [Int.natCast_mul, hwn]
      have hdg : ∀ j, j < (firstV vs vs.length).toNat * w.toNat → dig (m.getD j default) := fun j hj => (by
        have q := hdm.at (i := j) (by rw [List.length_take]; omega)
        rwa [List.getD_eq_getElem?_getD, List.getElem?_take_of_lt hj, ← List.getD_eq_getElem?_getD] at q)
      have hdk : i < (firstV vs vs.length).toNat → ∀ k, k < w.toNat → dig (m.getD (i * w.toNat + k) default) := fun h k hk => hdg _ (mul_in h hk (Nat.le_refl _))
      have hwm : i < (firstV vs vs.length).toNat → i * w.toNat + w.toNat ≤ m.length := fun h => (by have q := hmi h (w.toNat - 1) (by omega); omega)
      have hrl : i < (firstV vs vs.length).toNat → ((m.drop (i * w.toNat)).take w.toNat).length = w.toNat := fun h => (by have := hwm h; rw [List.length_take, List.length_drop]; omega)
      have hrd : i < (firstV vs vs.length).toNat → ∀ k, k < ((m.drop (i * w.toNat)).take w.toNat).length → 0 ≤ ((m.drop (i * w.toNat)).take w.toNat).getD k default ∧ ((m.drop (i * w.toNat)).take w.toNat).getD k default ≤ 1 := fun h k hk => (by
        rw [hrl h] at hk
        rw [hrw k hk h]
        have q := hdk h k hk
        unfold dig at q
        omega)
      have hiw : i < (firstV vs vs.length).toNat → 0 ≤ (i : Int) * w ∧ (i : Int) * w ≤ 4096 := fun h => (by
        rw [hcast]
        have q1 := mul_in h (show 0 < w.toNat by omega) (Nat.le_refl _)
        have q2 : (((firstV vs vs.length).toNat * w.toNat : Nat) : Int) = firstV vs vs.length * w := by rw [Int.natCast_mul, hwn, Int.toNat_of_nonneg hgb.2.2.2.2.1]
        omega)) <;> (refine W_seq ?_; (refine W_rgn ?_; ((refine Ra rfl (X_lss rfl rfl (fun _ => ?_) (fun _ => ?_))) <;> (refine R_nil ?_))) <;> (first | refine thenQ_ret ?_ | refine thenQ_ext ?_ | (refine thenQ_nrm ?_; (refine W_seq ?_; (refine W_cond rfl (fun ht => ?_) (fun ht => ?_) <;> (first | exact absurd ht (by decide) | (refine W_skip ?_) | (refine W_exit ?_))) <;> (first | refine thenQ_ret ?_ | refine thenQ_ext ?_ | (refine thenQ_nrm ?_; (refine W_seq ?_; (refine W_block ?_; (refine W_seq ?_; (refine W_rgn ?_; ((refine Ra rfl (X_mv rfl ?_)) <;> (refine Ra rfl (X_mv rfl ?_)) <;> (refine R_nil ?_))) <;> (first | refine thenQ_ret ?_ | refine thenQ_ext ?_ | (refine thenQ_nrm ?_; (refine W_seq ?_; (refine W_rgn ?_; ((refine Ra rfl (X_mv rfl ?_)) <;> (refine R_nil ?_))) <;> (first | refine thenQ_ret ?_ | refine thenQ_ext ?_ | (refine thenQ_nrm ?_; (refine W_seq ?_; (refine W_seq ?_; (refine W_rgn ?_; ((refine Ra rfl (X_faddr rfl ?_)) <;> (first | (refine Ra rfl (X_load (lB rfl rfl) ?_)) | (refine Ra rfl (X_load (lB rfl (cS_at0 (by omega))) ?_)) | (refine Ra rfl (X_load (lE rfl (by omega) (cS_at1 (by omega))) ?_)) | (refine Ra rfl (X_load (lE0 rfl (by omega) rfl) ?_)) | (refine Ra rfl (X_load (lE rfl (by omega) rfl) ?_)) | (refine Ra rfl (X_load (lX0 rfl (by assumption) rfl) ?_)) | (refine Ra rfl (X_load (lX rfl (by assumption) rfl) ?_))) <;> (refine Ra rfl (X_mv rfl ?_)) <;> (refine R_nil ?_))) <;> (first | refine thenQ_ret ?_ | refine thenQ_ext ?_ | (refine thenQ_nrm ?_; (refine W_block ?_; ((
      refine wLoop (fun k : Nat => [(43, .int .i64 (k : Nat)), (10, .int .i64 (ofI ((m.drop (i * w.toNat)).take w.toNat) k))]) (fun _ => [.box b2 [.int .i64 w, vv, .int .i64 op, .int .i64 n, .int .i64 c, v], .gro vl 1 ((wordsL m w.toNat i).map cI)]) (fun k _ => k ≤ w.toNat) (fun k => w.toNat - k) 0 (by repeat' (first | exact trivial | exact rfl | constructor)) (Upd.done ⟨Nat.zero_le _, hB rfl (hG rfl Has.nil)⟩) ?_
      intro k Z2 hz2 hk
      have hb := pow_le_ (m := k) (n := 8) (by omega)
      have hb8 : (2 : Int) ^ 8 = 256 := by decide
      have hb2 := pow_pos_ k
      have hb3 := ofI_bd (l := (m.drop (i * w.toNat)).take w.toNat) (n := k) (fun j hj => hrd (by omega) j (by rw [hrl (by omega)]; omega))
      have hdk1 : k < w.toNat → m.getD (i * w.toNat + k) default = 0 ∨ m.getD (i * w.toNat + k) default = 1 := fun h => hdk (by omega) k h
      have hb4 : k < w.toNat → m.getD (i * w.toNat + k) default * 2 ^ k = 0 ∨ m.getD (i * w.toNat + k) default * 2 ^ k = 2 ^ k := fun h => by
        rcases hdk1 h with e | e <;> rw [e] <;> simp
      have hck : ((i : Int) * w + (k : Int)).toNat = i * w.toNat + k := by rw [hcast]; omega) <;> (refine W_seq ?_; (refine W_rgn ?_; ((refine Ra rfl (X_lss rfl rfl (fun _ => ?_) (fun _ => ?_))) <;> (refine R_nil ?_))) <;> (first | refine thenQ_ret ?_ | refine thenQ_ext ?_ | (refine thenQ_nrm ?_; (refine W_seq ?_; (refine W_cond rfl (fun ht => ?_) (fun ht => ?_) <;> (first | exact absurd ht (by decide) | (refine W_skip ?_) | (refine W_exit ?_))) <;> (first | refine thenQ_ret ?_ | refine thenQ_ext ?_ | (refine thenQ_nrm ?_; (refine W_seq ?_; (refine W_block ?_; (refine W_seq ?_; (refine W_rgn ?_; ((refine Ra rfl (X_mv rfl ?_)) <;> (refine Ra rfl (X_mv rfl ?_)) <;> (refine R_nil ?_))) <;> (first | refine thenQ_ret ?_ | refine thenQ_ext ?_ | (refine thenQ_nrm ?_; (refine W_rgn ?_; ((refine Ra rfl (X_mv rfl ?_)) <;> (refine Ra rfl (X_mv rfl ?_)) <;> (refine Ra rfl (X_mv rfl ?_)) <;> (refine Ra rfl (X_faddr rfl ?_)) <;> (first | (refine Ra rfl (X_load (lB rfl rfl) ?_)) | (refine Ra rfl (X_load (lB rfl (cS_at0 (by omega))) ?_)) | (refine Ra rfl (X_load (lE rfl (by omega) (cS_at1 (by omega))) ?_)) | (refine Ra rfl (X_load (lE0 rfl (by omega) rfl) ?_)) | (refine Ra rfl (X_load (lE rfl (by omega) rfl) ?_)) | (refine Ra rfl (X_load (lX0 rfl (by assumption) rfl) ?_)) | (refine Ra rfl (X_load (lX rfl (by assumption) rfl) ?_))) <;> (refine Ra rfl (X_mulI rfl rfl (by have := hiw (by omega); omega) (by have := hiw (by omega); omega) ?_)) <;> (refine Ra rfl (X_mv rfl ?_)) <;> (refine Ra rfl (X_addI rfl rfl (by have := hiw (by omega); omega) (by have := hiw (by omega); omega) ?_)) <;> (refine Ra rfl (xIa rfl rfl (by have := hiw (by omega); omega) (by rw [hck]; exact hmi (by omega) k (by omega)) ?_)) <;> (first | (refine Ra rfl (X_load (lB rfl rfl) ?_); (rw [hck])) | (refine Ra rfl (X_load (lB rfl (cS_at0 (by omega))) ?_); (rw [hck])) | (refine Ra rfl (X_load (lE rfl (by omega) (cS_at1 (by omega))) ?_); (rw [hck])) | (refine Ra rfl (X_load (lE0 rfl (by omega) rfl) ?_); (rw [hck])) | (refine Ra rfl (X_load (lE rfl (by omega) rfl) ?_); (rw [hck])) | (refine Ra rfl (X_load (lX0 rfl (by assumption) rfl) ?_); (rw [hck])) | (refine Ra rfl (X_load (lX rfl (by assumption) rfl) ?_); (rw [hck]))) <;> (refine Ra rfl (X_mv rfl ?_)) <;> (first | (refine Ra rfl (X_convU rfl (by omega) (by omega) ?_)) | (refine Ra rfl (X_conv rfl ?_))) <;> (first | (refine Ra rfl (X_shlU rfl rfl (by omega) (by omega) ?_)) | (refine Ra rfl (X_shlI rfl rfl (by omega) (by omega) (by omega) (by omega) ?_)) | (refine Ra rfl (X_bin rfl rfl rfl ?_))) <;> (first | (refine Ra rfl (X_orU rfl rfl ?_)) | (refine Ra rfl (X_orI rfl rfl (by omega) (by omega) (by omega) (by omega) ?_)) | (refine Ra rfl (X_bin rfl rfl rfl ?_))) <;> (refine Ra rfl (X_mv rfl ?_)) <;> (refine R_nil ?_)))))) <;> (first | refine blockQ_nrm ?_ | refine blockQ_ret ?_ | refine blockQ_ext ?_ | refine blockQ_far rfl ?_)) <;> (first | refine thenQ_ret ?_ | refine thenQ_ext ?_ | (refine thenQ_nrm ?_; (refine W_rgn ?_; ((first | (refine Ra rfl (X_addI rfl rfl (by omega) (by omega) ?_)) | (refine Ra rfl (X_bin rfl rfl rfl ?_))) <;> (refine Ra rfl (X_mv rfl ?_)) <;> (refine R_nil ?_)))))))))))) <;> (first | refine thenQ_ret ?_ | refine thenQ_ext ?_ | (refine thenQ_nrm ?_; (
        refine Upd.done ⟨k + 1, by omega, by omega, ?_, hB rfl (hG rfl Has.nil)⟩
        rw [or_add hb3.1 hb3.2 (hdk1 (by omega)), ← hrw k (by omega) (by omega), ← ofI_succ]
        exact (by repeat' (first | exact trivial | exact rfl | constructor)))))) <;> (first | refine blockQ_nrm ?_ | refine blockQ_ret ?_ | refine blockQ_ext ?_ | refine blockQ_far rfl ?_))))) <;> (first | refine thenQ_ret ?_ | refine thenQ_ext ?_ | (refine thenQ_nrm ?_; (refine W_rgn ?_; ((refine Ra rfl (X_mv rfl ?_); (have hk9 : k = w.toNat := (by omega); subst hk9)) <;> (refine Ra rfl (X_mv rfl ?_)) <;> (refine Ra rfl (X_bsliceC (pCons rfl Parts.nil) rfl rfl rfl (fun v63 => ?_))) <;> (refine Ra rfl (xApGm (fe := cI) (wordI m w.toNat i) rfl rfl rfl (by rw [wordsL_len]; omega) (fun v64 => ?_))) <;> (refine Ra rfl (X_mv rfl ?_)) <;> (refine R_nil ?_)))))))))))) <;> (first | refine blockQ_nrm ?_ | refine blockQ_ret ?_ | refine blockQ_ext ?_ | refine blockQ_far rfl ?_)) <;> (first | refine thenQ_ret ?_ | refine thenQ_ext ?_ | (refine thenQ_nrm ?_; (refine W_rgn ?_; ((first | (refine Ra rfl (X_addI rfl rfl (by omega) (by omega) ?_)) | (refine Ra rfl (X_bin rfl rfl rfl ?_))) <;> (refine Ra rfl (X_mv rfl ?_)) <;> (refine R_nil ?_)))))))))))) <;> (first | refine thenQ_ret ?_ | refine thenQ_ext ?_ | (refine thenQ_nrm ?_; (
        refine Upd.done ⟨(i + 1, _), ?_, ?_, (by repeat' (first | exact trivial | exact rfl | constructor)), hB rfl (hG (congrArg (List.map cI) (wordsL_succ _ _ _).symm) Has.nil)⟩
        · show (firstV vs vs.length).toNat - (i + 1) < (firstV vs vs.length).toNat - i
          omega
        · show i + 1 ≤ (firstV vs vs.length).toNat
          omega)))) <;> (first | refine blockQ_nrm ?_ | refine blockQ_ret ?_ | refine blockQ_ext ?_ | refine blockQ_far rfl ?_))))) <;> (first | refine thenQ_ret ?_ | refine thenQ_ext ?_ | (refine thenQ_nrm ?_; (refine W_seq ?_; (refine W_rgn ?_; ((refine Ra rfl (X_mv rfl ?_)) <;> (refine Ra rfl (X_mv rfl ?_)) <;> (refine Ra rfl (X_mv rfl ?_)) <;> (refine R_nil ?_))) <;> (first | refine thenQ_ret ?_ | refine thenQ_ext ?_ | (refine thenQ_nrm ?_; (refine W_ret ?_))))))))))))))))))))))
  <;> (first | refine fn_ret (Res.tmp rfl (Res.tmp rfl Res.nil)) ?_ | refine fn_nrm (Res.tmp rfl (Res.tmp rfl Res.nil)) ?_)
  all_goals first
    | exact Upd.nil ⟨rfl, .inl ⟨hGo, rfl⟩⟩
    | exact Upd.nil ⟨rfl, .inr (.inl ⟨hGo, fun h => absurd h.2 hb34, rfl⟩)⟩
    | exact Upd.nil ⟨rfl, .inr (.inl ⟨hGo, fun h => absurd h.1 (by dsimp only; omega), rfl⟩)⟩
    | (have hi2 : i = (firstV vs vs.length).toNat := by omega
       subst hi2
       dsimp only [tupled]
       refine uG vl fun Za hza hf => Upd.nil ⟨rfl, .inr (.inr ⟨hGo, ?_, ?_, vl, rfl, hf⟩)⟩
       · dsimp only; omega
       · exact hb34)
end Go.Proofs.Ytgaplmpopgdfbaa.Hm.V
