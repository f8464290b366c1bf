import Derived.Test.YtlidnionbofkaaaHF
import Derived.Test.YtlidnionbofkaaaA6
import Derived.Test.YtlidnionbofkaaaVB2
namespace Go.Proofs.Ytlidnionbofkaaa.Hm.V
open Go
set_option linter.all false
set_option maxRecDepth 100000
attribute [local irreducible] X XG S R D W Call CallG Upd Rds Rck Sees Res Cel CallP fnQ fnG
theorem len_1 {α : Type} {l : List α} (h : l.length = 1) : ∃ a, l = [a] := by
  cases l with
  | nil => cases h
  | cons a l => cases l with
    | nil => exact ⟨a, rfl⟩
    | cons b l => simp at h
theorem len_2 {α : Type} {l : List α} (h : l.length = 2) : ∃ a b, l = [a, b] := by
  cases l with
  | nil => cases h
  | cons a l => obtain ⟨b, rfl⟩ := len_1 (l := l) (by simpa using h); exact ⟨a, b, rfl⟩
theorem len_3 {α : Type} {l : List α} (h : l.length = 3) : ∃ a b c, l = [a, b, c] := by
  cases l with
  | nil => cases h
  | cons a l => obtain ⟨b, c, rfl⟩ := len_2 (l := l) (by simpa using h); exact ⟨a, b, c, rfl⟩
theorem good_cons {t : Tok} {L : List Tok} (h : t ≠ []) (k : [] ∉ L) : [] ∉ t :: L := fun q => by
  rcases List.mem_cons.1 q with q | q
  · exact h q.symm
  · exact k q
theorem good_app {L M : List Tok} (h : [] ∉ L) (k : [] ∉ M) : [] ∉ L ++ M := fun q => by
  rcases List.mem_append.1 q with q | q
  · exact h q
  · exact k q
theorem adv_ok {t : Tok} {L : List Tok} (h : [] ∉ L) : advT (t :: L) = some L := by
  rw [advT_cons, if_neg]
  intro q
  cases L with
  | nil => cases q
  | cons u r =>
    have : u = [] := by simpa using q
    exact h (by rw [this]; simp)
theorem take_ok2 {t : Tok} {L : List Tok} (h : [] ∉ L) : takeT t (t :: L) = some L := by
  rw [takeT]
  exact (if_pos rfl).trans (adv_ok h)
def okR (R : List Tok) : Prop := [] ∉ R ∧ R.head? ≠ some [91] ∧ R.head? ≠ some [64]
theorem okR_cons {t : Tok} {L : List Tok} (h : t ≠ []) (k : [] ∉ L) (h1 : t ≠ [91]) (h2 : t ≠ [64]) : okR (t :: L) := ⟨good_cons h k, fun q => h1 (by simpa using q), fun q => h2 (by simpa using q)⟩
theorem sign_op2 {i : Nat} (h0 : 2 ≤ i) (h1 : i < 15) (h : IsOp i) : signV i ≠ [] := by
  obtain ⟨j, rfl⟩ : ∃ j : Fin 13, i = j.val + 2 := ⟨⟨i - 2, by omega⟩, by simp; omega⟩
  revert h
  unfold IsOp
  have key : ∀ j : Fin 13, j.val + 2 ≠ 12 → signV ((j.val + 2 : Nat) : Int) ≠ [] := by decide
  intro h
  exact key j (by omega)
theorem sign_facts {op : Int} (h : IsOp op) : signV op ≠ [] ∧ opT (signV op) = some op ∧ signV op ≠ [91] := by
  have h' := h
  unfold IsOp at h'
  obtain ⟨i, rfl⟩ : ∃ i : Nat, op = i := ⟨op.toNat, by omega⟩
  have h1 := sign_op2 (by omega) (by omega) h
  refine ⟨h1, opT_sign (by omega) (by omega) h1, ?_⟩
  unfold signV
  cases e : signL.find? fun p => decide (p.2 = (i : Int)) with
  | none => simp
  | some p =>
    have hm := List.mem_of_find?_eq_some e
    have key : ∀ p ∈ signL, p.1 ≠ [91] := by decide
    simpa using key p hm
theorem digW_num {n : Nat} (h : n < 256) : isNum (digW n) = true ∧ numP (digW n) = n := ⟨(dig_all ⟨n, h⟩).1, (dig_all ⟨n, h⟩).2.1⟩
theorem num_ne {t : Tok} (h : isNum t = true) : t ≠ [] ∧ ¬ t = [126] ∧ ¬ t = [40] ∧ ¬ isWrd t = true := by
  cases t with
  | nil => cases h
  | cons c t =>
    refine ⟨by simp, fun q => ?_, fun q => ?_, fun q => ?_⟩
    · rw [q] at h; cases h
    · rw [q] at h; cases h
    · simp only [isNum, isDig, isWrd, isLet, decide_eq_true_eq] at h q
      omega
theorem name_ne {t : Tok} (h : nameP t) : t ≠ [] ∧ ¬ t = [126] ∧ ¬ t = [40] ∧ isWrd t = true := by
  obtain ⟨h1, h2, h3, h4, h5⟩ := h
  cases t with
  | nil => simp at h1
  | cons c t =>
    have hl : isLet c = true := h3
    refine ⟨by simp, fun q => ?_, fun q => ?_, hl⟩
    · have := (List.cons.inj q).1
      subst this; cases hl
    · have := (List.cons.inj q).1
      subst this; cases hl
theorem tkE_good {w : Int} {vs : List Vr} {k : Int} (hH : headP w vs) (hk3 : k ≤ 3) : ∀ e : Ex, formE w vs k e → [] ∉ tkE k vs e ∧ e.depth ≤ (tkE k vs e).length := by
  have hpw := pow_w hH.1.1 hH.1.2
  intro e
  induction e using Ex.ind with
  | h op n c ks ih =>
    rw [formE_mk]
    rintro ⟨hnd, hfk⟩
    rw [tkE_mk, Ex.depth]
    obtain ⟨hn1, hn2, hn3, hn4, hn5, hn6⟩ := nodeP_arity hnd
    have hc : ∀ a ∈ ks, [] ∉ tkE k vs a ∧ a.depth ≤ (tkE k vs a).length := fun a ha => by
      obtain ⟨i, hi, rfl⟩ := List.getElem_of_mem ha
      have := hfk i hi
      rw [getD_eq hi] at this
      exact ih _ ha this
    unfold tkN
    by_cases h0 : op = 0
    · rw [if_pos h0]
      have q := ((nodeP_0 h0).1 hnd).2.2.2
      unfold wrdP at q
      obtain rfl : ks = [] := List.length_eq_zero_iff.1 (hn2 h0)
      exact ⟨good_cons (num_ne (digW_num (n := n.toNat) (by omega)).1).1 (by simp), by simp [Ex.depthL]⟩
    rw [if_neg h0]
    by_cases h1 : op = 1
    · rw [if_pos h1]
      obtain ⟨q0, q1, q2, q3, q4⟩ := hn3 h1
      have hnm := (name_ne (headP_name hH (i := n.toNat) (by omega))).1
      have hdg := (num_ne (digW_num (n := c.toNat) (by omega)).1).1
      have g1 : [] ∉ (if 1 < k then [(vs.getD n.toNat default).nm, [64], digW c.toNat] else [(vs.getD n.toNat default).nm]) := by
        split
        · exact good_cons hnm (good_cons (by simp) (good_cons hdg (by simp)))
        · exact good_cons hnm (by simp)
      have gl : 1 ≤ (if 1 < k then [(vs.getD n.toNat default).nm, [64], digW c.toNat] else [(vs.getD n.toNat default).nm]).length := by split <;> simp
      generalize (if 1 < k then [(vs.getD n.toNat default).nm, [64], digW c.toNat] else [(vs.getD n.toNat default).nm]) = P at g1 gl ⊢
      by_cases hl : ks.length = 0
      · obtain rfl : ks = [] := List.length_eq_zero_iff.1 hl
        rw [if_neg (by simp), List.append_nil]
        refine ⟨g1, ?_⟩
        simp only [Ex.depthL]
        omega
      · obtain ⟨a, rfl⟩ := len_1 (l := ks) (by omega)
        obtain ⟨i1, i2⟩ := hc a (by simp)
        rw [if_pos (by simp)]
        refine ⟨good_app g1 (good_cons (by simp) (good_app i1 (by simp))), ?_⟩
        simp only [Ex.depthL, List.map_cons, List.getD_cons_zero, List.length_append, List.length_cons, List.length_nil]
        omega
    rw [if_neg h1]
    by_cases h2 : op = 12
    · rw [if_pos h2]
      obtain ⟨a, rfl⟩ := len_1 (hn4 h2)
      obtain ⟨i1, i2⟩ := hc a (by simp)
      refine ⟨good_cons (by simp) i1, ?_⟩
      simp only [Ex.depthL, List.map_cons, List.getD_cons_zero, List.length_cons]
      omega
    rw [if_neg h2]
    by_cases h3 : op = 15
    · rw [if_pos h3]
      obtain ⟨a, b, c, rfl⟩ := len_3 (hn5 h3)
      obtain ⟨i1, i2⟩ := hc a (by simp)
      obtain ⟨j1, j2⟩ := hc b (by simp)
      obtain ⟨l1, l2⟩ := hc c (by simp)
      refine ⟨good_cons (by simp) (good_app i1 (good_cons (by simp) (good_app j1 (good_cons (by simp) (good_app l1 (by simp)))))), ?_⟩
      simp only [Ex.depthL, List.map_cons, List.getD_cons_zero, List.getD_cons_succ, List.length_append, List.length_cons, List.length_nil]
      omega
    rw [if_neg h3]
    obtain ⟨q1, q2⟩ := hn6 h0 h1 h2 h3
    obtain ⟨a, b, rfl⟩ := len_2 q1
    obtain ⟨i1, i2⟩ := hc a (by simp)
    obtain ⟨j1, j2⟩ := hc b (by simp)
    refine ⟨good_cons (by simp) (good_app i1 (good_cons (sign_facts q2).1 (good_app j1 (by simp)))), ?_⟩
    simp only [Ex.depthL, List.map_cons, List.getD_cons_zero, List.getD_cons_succ, List.length_append, List.length_cons, List.length_nil]
    omega
theorem argR_okR {rec : Prs} {n c : Int} {R : List Tok} (h : okR R) : argR rec n c R = some (.mk 1 n c [], R) := by
  cases R with
  | nil => rfl
  | cons t r =>
    rw [argR]
    exact if_neg fun e => h.2.1 (by rw [e]; rfl)
theorem parE {w : Int} {vs : List Vr} {k : Int} (hH : headP w vs) (hk3 : k ≤ 3) : ∀ (e : Ex), formE w vs k e → ∀ f R, e.depth ≤ f → okR R → exprF numP (cpB k) vs f (tkE k vs e ++ R) = some (e, R) := by
  have hpw := pow_w hH.1.1 hH.1.2
  intro e
  induction e using Ex.ind with
  | h op n c ks ih =>
    rw [formE_mk]
    rintro ⟨hnd, hfk⟩ f R hf hR
    rw [Ex.depth] at hf
    obtain ⟨f, rfl⟩ : ∃ g, f = g + 1 := ⟨f - 1, by omega⟩
    rw [tkE_mk, exprF]
    obtain ⟨hn1, hn2, hn3, hn4, hn5, hn6⟩ := nodeP_arity hnd
    have hfm : ∀ a ∈ ks, formE w vs k a := fun a ha => by
      obtain ⟨i, hi, rfl⟩ := List.getElem_of_mem ha
      have := hfk i hi
      rwa [getD_eq hi] at this
    have hg : ∀ a ∈ ks, [] ∉ tkE k vs a := fun a ha => (tkE_good hH hk3 a (hfm a ha)).1
    have hc : ∀ a ∈ ks, ∀ R, okR R → exprF numP (cpB k) vs f (tkE k vs a ++ R) = some (a, R) := fun a ha R hR => by
      refine ih a ha (hfm a ha) f R ?_ hR
      obtain ⟨i, hi, rfl⟩ := List.getElem_of_mem ha
      have := Ex.depth_get (ks := ks) hi
      rw [getD_eq hi] at this
      omega
    unfold tkN
    by_cases h0 : op = 0
    · rw [if_pos h0]
      obtain ⟨q1, q2, q3, q⟩ := (nodeP_0 h0).1 hnd
      unfold wrdP at q
      obtain rfl : ks = [] := List.length_eq_zero_iff.1 (hn2 h0)
      obtain ⟨d1, d2⟩ := digW_num (n := n.toNat) (by omega)
      obtain ⟨e1, e2, e3, e4⟩ := num_ne d1
      rw [List.cons_append, List.nil_append, exprR, if_neg e2, if_neg e3, if_neg e4]
      simp only [numT, if_pos d1, adv_ok hR.1]
      rw [d2, h0, q1, show ((n.toNat : Nat) : Int) = n by omega]
    rw [if_neg h0]
    by_cases h1 : op = 1
    · rw [if_pos h1]
      subst h1
      obtain ⟨q0, q1, q2, q3, q4⟩ := hn3 rfl
      have hnm := name_ne (headP_name hH (i := n.toNat) (by omega))
      have hni : nameI vs (vs.getD n.toNat default).nm = n := (nameI_at (i := n.toNat) (by omega) rfl fun j hj => headP_dis hH _ j hj (by omega)).trans (by omega)
      obtain ⟨d1, d2⟩ := digW_num (n := c.toNat) (by omega)
      obtain ⟨e1, e2, e3, e4⟩ := num_ne d1
      have hcc : ((c.toNat : Nat) : Int) = c := by omega
      have key : ∀ M, M = (if 0 < (ks.map (tkE k vs)).length then [91] :: ((ks.map (tkE k vs)).getD 0 default ++ [[93]]) else []) ++ R → [] ∉ M ∧ M.head? ≠ some [64] ∧ ∀ c, argR (exprF numP (cpB k) vs f) n c M = some (.mk 1 n c ks, R) := by
        rintro M rfl
        by_cases hl : ks.length = 0
        · obtain rfl : ks = [] := List.length_eq_zero_iff.1 hl
          rw [if_neg (by simp), List.nil_append]
          exact ⟨hR.1, hR.2.2, fun c => argR_okR hR⟩
        · obtain ⟨a, rfl⟩ := len_1 (l := ks) (by omega)
          rw [if_pos (by simp)]
          simp only [List.map_cons, List.getD_cons_zero, List.cons_append, List.append_assoc, List.nil_append]
          have g1 : [] ∉ [93] :: R := good_cons (by simp) hR.1
          have g2 := good_app (hg a (by simp)) g1
          refine ⟨good_cons (by simp) g2, by simp, fun c => ?_⟩
          rw [argR, if_pos rfl]
          simp only [adv_ok g2, hc a (by simp) _ (okR_cons (t := [93]) (by simp) hR.1 (by decide) (by decide)), take_ok2 hR.1]
      obtain ⟨k1, k2, k3⟩ := key _ rfl
      rw [List.append_assoc]
      generalize (if 0 < (ks.map (tkE k vs)).length then [91] :: ((ks.map (tkE k vs)).getD 0 default ++ [[93]]) else []) ++ R = M at k1 k2 k3 ⊢
      by_cases hk : 1 < k
      · rw [if_pos hk, show cpB k = true from decide_eq_true hk]
        rw [show cpB k = true from decide_eq_true hk] at k3
        simp only [List.cons_append, List.nil_append]
        have g1 := good_cons e1 k1
        have g2 : [] ∉ [64] :: digW c.toNat :: M := good_cons (by simp) g1
        rw [exprR, if_neg hnm.2.1, if_neg hnm.2.2.1, if_pos hnm.2.2.2]
        simp only [readR, adv_ok g2, take_ok2 g1, numT, if_pos d1, adv_ok k1]
        rw [hni, d2, hcc]
        exact k3 c
      · rw [if_neg hk, show cpB k = false from decide_eq_false hk]
        rw [show cpB k = false from decide_eq_false hk] at k3
        simp only [List.cons_append, List.nil_append]
        rw [exprR, if_neg hnm.2.1, if_neg hnm.2.2.1, if_pos hnm.2.2.2]
        simp only [readR, adv_ok k1, if_neg k2]
        rw [hni]
        have : c = 0 := by omega
        rw [this]
        exact k3 0
    rw [if_neg h1]
    have hnc : op ≠ 0 → op ≠ 1 → n = 0 ∧ c = 0 := fun h0 h1 => by
      by_cases q : n = 0 ∧ c = 0
      · exact q
      · exact ((nodeP_n h1 h0 q).1 hnd).elim
    obtain ⟨rfl, rfl⟩ := hnc h0 h1
    by_cases h2 : op = 12
    · rw [if_pos h2]
      obtain ⟨a, rfl⟩ := len_1 (hn4 h2)
      simp only [List.map_cons, List.getD_cons_zero, List.cons_append, List.append_assoc, List.nil_append]
      rw [exprR, if_pos rfl]
      simp only [adv_ok (good_app (hg a (by simp)) hR.1), hc a (by simp) R hR]
      rw [h2]
    rw [if_neg h2]
    by_cases h3 : op = 15
    · rw [if_pos h3]
      obtain ⟨a, b, c, rfl⟩ := len_3 (hn5 h3)
      simp only [List.map_cons, List.getD_cons_zero, List.getD_cons_succ, List.cons_append, List.append_assoc, List.nil_append]
      have g1 : [] ∉ [41] :: R := good_cons (by simp) hR.1
      have g2 := good_app (hg c (by simp)) g1
      have g3 : [] ∉ [58] :: (tkE k vs c ++ [41] :: R) := good_cons (by simp) g2
      have g4 := good_app (hg b (by simp)) g3
      have g5 : [] ∉ [63] :: (tkE k vs b ++ [58] :: (tkE k vs c ++ [41] :: R)) := good_cons (by simp) g4
      have g6 := good_app (hg a (by simp)) g5
      rw [exprR, if_neg (by decide), if_pos rfl]
      simp only [adv_ok g6]
      unfold groupR
      simp only [hc a (by simp) _ (okR_cons (t := [63]) (by simp) g4 (by decide) (by decide))]
      simp only [if_true, adv_ok g4, hc b (by simp) _ (okR_cons (t := [58]) (by simp) g2 (by decide) (by decide)), take_ok2 g2, hc c (by simp) _ (okR_cons (t := [41]) (by simp) hR.1 (by decide) (by decide)), take_ok2 hR.1]
      rw [h3]
    rw [if_neg h3]
    obtain ⟨q1, q2⟩ := hn6 h0 h1 h2 h3
    obtain ⟨a, b, rfl⟩ := len_2 q1
    obtain ⟨s1, s2, s3⟩ := sign_facts q2
    simp only [List.map_cons, List.getD_cons_zero, List.getD_cons_succ, List.cons_append, List.append_assoc, List.nil_append]
    have g1 : [] ∉ [41] :: R := good_cons (by simp) hR.1
    have g2 := good_app (hg b (by simp)) g1
    have g3 : [] ∉ signV op :: (tkE k vs b ++ [41] :: R) := good_cons s1 g2
    have g4 := good_app (hg a (by simp)) g3
    rw [exprR, if_neg (by decide), if_pos rfl]
    simp only [adv_ok g4]
    unfold groupR
    simp only [hc a (by simp) _ (okR_cons s1 g2 s3 (sign_64 op))]
    rw [if_neg (sign_63 op)]
    simp only [s2, adv_ok g2, hc b (by simp) _ (okR_cons (t := [41]) (by simp) hR.1 (by decide) (by decide)), take_ok2 hR.1]
theorem parX_pr {w : Int} {vs : List Vr} {k : Int} (hH : headP w vs) (hk3 : k ≤ 3) {e : Ex} (h : formE w vs k e) : parX numP (cpB k) vs (prE k vs e) = some e := by
  have hl := lexE hH hk3 e h [] (fun c hc => by cases hc)
  rw [List.append_nil, lexL_nil, List.append_nil] at hl
  obtain ⟨g1, g2⟩ := tkE_good hH hk3 e h
  have hp := parE hH hk3 e h ((tkE k vs e).length + 1) [] (by omega) ⟨by simp, by simp, by simp⟩
  rw [List.append_nil] at hp
  unfold parX
  rw [hl, hp, if_neg]
  intro q
  cases e1 : tkE k vs e with
  | nil => rw [e1] at q; cases q
  | cons u r =>
    rw [e1] at q g1
    have : u = [] := by simpa using q
    exact g1 (by rw [this]; simp)
theorem parP_back {w : Int} {vs : List Vr} {k : Int} {e x : Ex} {c : Int} (hH : headP w vs) (h1 : 1 ≤ k) (h3 : k ≤ 3) (hI : isE w vs k e) (h : parP numP w vs k (prE k vs e) x c) : c = 0 ∧ x = e := by
  have hnm : ∀ i, i < vs.length → (vs.getD i default).nm.length ≤ 12 := fun i hi => (headP_name hH hi).2.1
  have hlen := prE_len hH.1 h3 hnm e hI.2.2
  have hsz := hI.1
  have hx := parX_pr hH h3 hI.2.2
  unfold parP at h
  rcases h with ⟨rfl, rfl, q⟩ | ⟨rfl, rfl, q, q2⟩ | ⟨rfl, rfl, q, q2, q3⟩ | ⟨rfl, rfl, q, q2, y, q3, q4⟩ | ⟨rfl, q, q2, q3, q4⟩
  · exact absurd ⟨hH, h1, h3⟩ q
  · omega
  · rw [hx] at q3; cases q3
  · rw [hx] at q3; cases q3; exact absurd hI q4
  · rw [hx] at q3; cases q3; exact ⟨rfl, rfl⟩
end Go.Proofs.Ytlidnionbofkaaa.Hm.V
