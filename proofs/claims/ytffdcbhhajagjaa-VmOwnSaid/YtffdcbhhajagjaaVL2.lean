/- Layer 9's laws, plainly: trails, more fuel, equal events. -/
import Derived.Test.YtffdcbhhajagjaaHF
import Derived.Test.YtffdcbhhajagjaaA6
import Derived.Test.YtffdcbhhajagjaaVL1
namespace Go.Proofs.Ytffdcbhhajagjaa.Hm.V
open Go
set_option linter.all false
set_option maxRecDepth 100000
attribute [local irreducible] X S R D W Call Upd Rds Rck Sees Res Cel CallP fnQ
/-! ### the trail -/
def nextL (c : Cd) (p : Int) : List Int :=
  if (c.ins.getD p.toNat default).o = 11 then [] else if (c.ins.getD p.toNat default).o = 5 then [(c.ins.getD p.toNat default).a]
  else if (c.ins.getD p.toNat default).o = 6 then [p + 1, (c.ins.getD p.toNat default).b] else [p + 1]
def succP (c : Cd) (p q : Int) : Prop := nextL c p ≠ [] ∧ (q = (nextL c p).getD 0 default ∨ q = (nextL c p).getD ((nextL c p).length - 1) default)
theorem nextL_len (c : Cd) (p : Int) : (nextL c p).length ≤ 2 := by unfold nextL; (repeat' split) <;> simp
def placP (c : Cd) (p : Int) : Prop := 0 ≤ p ∧ p < c.ins.length
structure Ch (c : Cd) (l : List Int) : Prop where
  rng : ∀ i, i < l.length → placP c (l.getD i default)
  ch : ∀ i, i + 1 < l.length → succP c (l.getD i default) (l.getD (i + 1) default)
  z : 0 < l.length → l.getD 0 default = 0
theorem Ch.pre {c : Cd} {l : List Int} {p : Int} (h : Ch c (l ++ [p])) : Ch c l := by
  have hl : (l ++ [p]).length = l.length + 1 := by simp
  refine ⟨fun i hi => ?_, fun i hi => ?_, fun hi => ?_⟩
  · have := h.rng i (by omega); rwa [getD_app hi] at this
  · have := h.ch i (by omega); rwa [getD_app (by omega), getD_app (by omega)] at this
  · have := h.z (by omega); rwa [getD_app hi] at this
theorem last_app {l : List Int} {p : Int} : (l ++ [p]).getD l.length default = p := by
  have := getD_appr (l := l) (l' := [p]) (i := 0)
  rw [Nat.add_zero] at this
  rw [this]; rfl
theorem Ch.snoc {c : Cd} {l : List Int} {p q : Int} (h : Ch c (l ++ [p])) (hs : succP c p q) (hq : placP c q) : Ch c ((l ++ [p]) ++ [q]) := by
  have hl : (l ++ [p]).length = l.length + 1 := by simp
  have hl2 : ((l ++ [p]) ++ [q]).length = l.length + 2 := by simp
  refine ⟨fun i hi => ?_, fun i hi => ?_, fun hi => ?_⟩
  · rcases Nat.lt_or_ge i (l.length + 1) with h1 | h1
    · rw [getD_app (by omega)]; exact h.rng i (by omega)
    · obtain rfl : i = (l ++ [p]).length := by omega
      rw [last_app]; exact hq
  · rcases Nat.lt_or_ge (i + 1) (l.length + 1) with h1 | h1
    · rw [getD_app (l := l ++ [p]) (l' := [q]) (i := i) (by omega), getD_app (l := l ++ [p]) (l' := [q]) (i := i + 1) (by omega)]; exact h.ch i (by omega)
    · have e : i + 1 = (l ++ [p]).length := by omega
      have e2 : i = l.length := by omega
      rw [e, last_app, getD_app (l := l ++ [p]) (l' := [q]) (i := i) (by omega), e2, last_app]; exact hs
  · rw [getD_app (by omega)]; exact h.z (by omega)
/-- A step goes to a place that may follow. -/
theorem step_succ {c : Cd} {pk : List Int} {s s' : Cf} (hx : rightP c (s.ins c)) (h : doP c pk (s.ins c) s.tick = (s', none)) : succP c s.pc s'.pc := by
  have two : ∀ a b : Int, ∀ q, q = a ∨ q = b → q = ([a, b] : List Int).getD 0 default ∨ q = ([a, b] : List Int).getD (([a, b] : List Int).length - 1) default := fun a b q h => h
  have gen : ∀ q, (s.ins c).o ≠ 11 → (s.ins c).o ≠ 5 → q = s.pc + 1 → succP c s.pc q := fun q h1 h2 h3 => by
    unfold succP nextL
    rw [if_neg h1, if_neg h2]
    by_cases h4 : (s.ins c).o = 6
    · rw [if_pos h4]; exact ⟨by simp, .inl h3⟩
    · rw [if_neg h4]; exact ⟨by simp, .inl h3⟩
  cases hm : mvP c (s.ins c) s.tick with
  | some s2 =>
    rw [do_mv hm] at h
    cases h
    refine gen _ ?_ ?_ rfl <;> intro e <;> (rw [mv_no' (by omega) (by omega)] at hm; cases hm)
  | none =>
    obtain ⟨q0, q1, q2, q3, q4, q7⟩ := mv_none hm
    by_cases h5 : (s.ins c).o = 5
    · rw [do_5 hm h5] at h
      cases h
      unfold succP nextL
      rw [if_neg (show ¬ (s.ins c).o = 11 by omega), if_pos h5]
      exact ⟨by simp, .inl rfl⟩
    by_cases h6 : (s.ins c).o = 6
    · by_cases hz : s.tick.r (s.ins c).a = 0
      · rw [do_6z hm h6 hz] at h
        cases h
        unfold succP nextL
        rw [if_neg (show ¬ (s.ins c).o = 11 by omega), if_neg h5, if_pos h6]
        exact ⟨by simp, .inr rfl⟩
      · rw [do_6n hm h6 hz] at h
        cases h
        exact gen _ (by omega) h5 rfl
    by_cases h8 : (s.ins c).o = 8
    · by_cases hz : pk.length ≤ s.tick.us
      · rw [do_8e hm h8 hz] at h; cases h
      · rw [do_8 hm h8 (by omega)] at h; cases h; exact gen _ (by omega) h5 rfl
    by_cases h9 : (s.ins c).o = 9
    · by_cases hz : s.tick.r (s.ins c).a = 0
      · rw [do_9z hm h9 hz] at h; cases h
      · rw [do_9n hm h9 hz] at h; cases h; exact gen _ (by omega) h5 rfl
    by_cases h10 : (s.ins c).o = 10
    · by_cases hz : s.tick.r (s.ins c).a = 0
      · rw [do_10z hm h10 hz] at h; cases h
      · rw [do_10n hm h10 hz] at h; cases h; exact gen _ (by omega) h5 rfl
    have h11 := op_11 hx q0 q1 q2 q3 q4 h5 h6 q7 h8 h9 h10
    rw [do_11 hm h11] at h; cases h
theorem run_ch {c : Cd} {pk : List Int} (hC : codeP c) (hk : wdsP c.w pk) : ∀ {n : Nat} {s : Cf}, Gd c pk s → Ch c (s.tl ++ [s.pc]) → Ch c (runP c pk n s).1.tl
  | 0, s, _, h => h.pre
  | n + 1, s, hg, h => by
    rw [runP]
    rcases hd : doP c pk (s.ins c) s.tick with ⟨s', _ | e⟩
    · obtain ⟨g1, g2⟩ := Gd.step hC hk hg hd
      refine run_ch hC hk (n := n) g1 ?_
      rw [g2]
      exact h.snoc (step_succ (hg.ins_ok hC) hd) g1.pc
    · obtain rfl := do_end hd
      exact h
/-! ### more fuel -/
theorem end_not3 {c : Cd} {pk : List Int} {x : In} {s s' : Cf} {e : Int} (hd : doP c pk x s = (s', some e)) : e ≠ 3 := by
  unfold doP at hd
  cases hm : mvP c x s with
  | some s2 => rw [hm] at hd; cases hd
  | none =>
    rw [hm] at hd
    dsimp only at hd
    repeat' split at hd
    all_goals first | (cases hd; decide) | cases hd
theorem run_add {c : Cd} {pk : List Int} (m : Nat) : ∀ (n : Nat) (s : Cf), runP c pk (n + m) s = if (runP c pk n s).2 = 3 then runP c pk m (runP c pk n s).1 else runP c pk n s
  | 0, s => by rw [Nat.zero_add, run_0, if_pos rfl]
  | n + 1, s => by
    rw [show n + 1 + m = (n + m) + 1 by omega, runP, runP]
    rcases hd : doP c pk (s.ins c) s.tick with ⟨s', _ | e⟩
    · exact run_add m n s'
    · simp only
      rw [if_neg (end_not3 hd)]
theorem run_spent {c : Cd} {pk : List Int} (hC : codeP c) (hk : wdsP c.w pk) : ∀ {n : Nat} {s : Cf}, Gd c pk s → (runP c pk n s).2 = 3 → (runP c pk n s).1.tl.length = s.tl.length + n
  | 0, s, _, _ => rfl
  | n + 1, s, hg, h => by
    rw [runP] at h ⊢
    rcases hd : doP c pk (s.ins c) s.tick with ⟨s', _ | e⟩
    · rw [hd] at h
      obtain ⟨g1, g2⟩ := Gd.step hC hk hg hd
      have := run_spent hC hk (n := n) g1 h
      rw [g2, List.length_append, List.length_singleton] at this
      show (runP c pk n s').1.tl.length = _
      omega
    · rw [hd] at h
      exact absurd h (end_not3 hd)
def Ext (s s' : Cf) : Prop := (∃ l, s'.tl = s.tl ++ l) ∧ (∃ l, s'.tr = s.tr ++ l) ∧ ∃ l, s'.ou = s.ou ++ l
theorem Ext.refl (s : Cf) : Ext s s := ⟨⟨[], by simp⟩, ⟨[], by simp⟩, [], by simp⟩
theorem Ext.trans {s s' s'' : Cf} (h : Ext s s') (k : Ext s' s'') : Ext s s'' := by
  obtain ⟨⟨a, h1⟩, ⟨b, h2⟩, d, h3⟩ := h
  obtain ⟨⟨a', k1⟩, ⟨b', k2⟩, d', k3⟩ := k
  exact ⟨⟨a ++ a', by rw [k1, h1, List.append_assoc]⟩, ⟨b ++ b', by rw [k2, h2, List.append_assoc]⟩, d ++ d', by rw [k3, h3, List.append_assoc]⟩
theorem evV_ext (c : Cd) (s : Cf) (k v i : Int) : ∃ l, evV c s k v i = s.tr ++ l := by
  unfold evV; split
  · exact ⟨_, rfl⟩
  · exact ⟨[], by simp⟩
theorem mv_ext {c : Cd} {x : In} {s s' : Cf} (h : mvP c x s = some s') : Ext s s' := by
  unfold mvP at h
  repeat' split at h
  all_goals first
    | (cases h; done)
    | (cases h; exact Ext.refl _)
    | (cases h; exact ⟨⟨[], by simp⟩, evV_ext _ _ _ _ _, [], by simp⟩)
    | (cases h; exact ⟨⟨[], by simp⟩, ⟨[], by simp⟩, _, rfl⟩)
    | (cases h; exact ⟨⟨[], (List.append_nil _).symm⟩, ⟨[], (List.append_nil _).symm⟩, [], (List.append_nil _).symm⟩)
theorem do_ext {c : Cd} {pk : List Int} {x : In} {s s' : Cf} {o : Option Int} (h : doP c pk x s = (s', o)) : Ext s s' := by
  unfold doP at h
  cases hm : mvP c x s with
  | some s2 =>
    rw [hm] at h; cases h
    obtain ⟨a, b, d⟩ := mv_ext hm
    exact ⟨a, b, d⟩
  | none =>
    rw [hm] at h
    dsimp only at h
    repeat' split at h
    all_goals (cases h; first
      | exact Ext.refl _
      | exact ⟨⟨[], (List.append_nil _).symm⟩, ⟨_, rfl⟩, [], (List.append_nil _).symm⟩
      | exact ⟨⟨[], (List.append_nil _).symm⟩, ⟨[], (List.append_nil _).symm⟩, [], (List.append_nil _).symm⟩)
theorem tick_ext (s : Cf) : Ext s s.tick := ⟨⟨_, rfl⟩, ⟨[], (List.append_nil _).symm⟩, [], (List.append_nil _).symm⟩
theorem run_ext {c : Cd} {pk : List Int} : ∀ {n : Nat} {s : Cf}, Ext s (runP c pk n s).1
  | 0, s => Ext.refl s
  | n + 1, s => by
    rw [runP]
    rcases hd : doP c pk (s.ins c) s.tick with ⟨s', _ | e⟩
    · exact (tick_ext s).trans ((do_ext hd).trans (run_ext (n := n)))
    · exact (tick_ext s).trans (do_ext hd)
theorem pre_take {α : Type} {a b l : List α} (h : b = a ++ l) : b.take a.length = a ∧ a.length ≤ b.length := by
  subst h; simp
/-! ### equal events -/
theorem end_0 {c : Cd} {pk : List Int} {x : In} {s s' : Cf} (hx : rightP c x) (hd : doP c pk x s = (s', some 0)) : x.o = 11 := by
  cases hm : mvP c x s with
  | some s2 => rw [do_mv hm] at hd; cases hd
  | none =>
    obtain ⟨q0, q1, q2, q3, q4, q7⟩ := mv_none hm
    unfold doP at hd
    rw [hm] at hd
    dsimp only at hd
    by_cases h5 : x.o = 5
    · rw [if_pos h5] at hd; cases hd
    by_cases h6 : x.o = 6
    · rw [if_neg h5, if_pos h6] at hd; cases hd
    by_cases h8 : x.o = 8
    · rw [if_neg h5, if_neg h6, if_pos h8] at hd
      split at hd <;> cases hd
    by_cases h9 : x.o = 9
    · rw [if_neg h5, if_neg h6, if_neg h8, if_pos h9] at hd
      split at hd <;> cases hd
    by_cases h10 : x.o = 10
    · rw [if_neg h5, if_neg h6, if_neg h8, if_neg h9, if_pos h10] at hd
      split at hd <;> cases hd
    exact op_11 hx q0 q1 q2 q3 q4 h5 h6 q7 h8 h9 h10
theorem do_none {c : Cd} {pk : List Int} {x : In} {s s' : Cf} (hd : doP c pk x s = (s', none)) : x.o ≠ 11 := by
  intro h
  rw [do_11 (mv_no' (by omega) (by omega)) h] at hd; cases hd
/-- What an instruction tells, and where it goes, from what it tells. -/
theorem step_ev {c : Cd} {pk : List Int} {x : In} {s s' : Cf} (hx : rightP c x) (h : doP c pk x s = (s', none)) :
    ∃ E, s'.tr = s.tr ++ E ∧ E.length = (if x.o = 6 then 1 else if x.o = 3 then (if 1 < cellsV' c x.b then 1 else 0) else if x.o = 4 then (if 1 < cellsV' c x.a then 1 else 0) else 0) ∧
    s'.pc = (if x.o = 5 then x.a else if x.o = 6 then (if E = [(⟨0, s.pc, 1⟩ : Ev)] then x.b else s.pc + 1) else s.pc + 1) := by
  have nil : ∀ l : List Ev, l = l ++ [] := fun l => (List.append_nil l).symm
  cases hm : mvP c x s with
  | some s2 =>
    rw [do_mv hm] at h
    cases h
    have n5 : x.o ≠ 5 := fun e => by rw [mv_no' (by omega) (by omega)] at hm; cases hm
    have n6 : x.o ≠ 6 := fun e => by rw [mv_no' (by omega) (by omega)] at hm; cases hm
    simp only [if_neg n5, if_neg n6]
    by_cases h3 : x.o = 3
    · rw [mv_3 h3] at hm; cases hm
      rw [if_pos h3]
      show ∃ E, evV c s 1 x.b _ = _ ∧ _
      unfold evV
      split
      · exact ⟨_, rfl, (by first | rfl | trivial), (by first | rfl | trivial)⟩
      · exact ⟨[], nil _, (by first | rfl | trivial), (by first | rfl | trivial)⟩
    · rw [if_neg h3]
      by_cases h4 : x.o = 4
      · rw [mv_4 h4] at hm; cases hm
        rw [if_pos h4]
        show ∃ E, evV c s 2 x.a _ = _ ∧ _
        unfold evV
        split
        · exact ⟨_, rfl, (by first | rfl | trivial), (by first | rfl | trivial)⟩
        · exact ⟨[], nil _, (by first | rfl | trivial), (by first | rfl | trivial)⟩
      · rw [if_neg h4]
        refine ⟨[], ?_, (by first | rfl | trivial), (by first | rfl | trivial)⟩
        show s2.tr = s.tr ++ []
        rw [List.append_nil]
        unfold mvP at hm
        rw [if_neg h3, if_neg h4] at hm
        repeat' split at hm
        all_goals first | (cases hm; rfl) | cases hm
  | none =>
    obtain ⟨q0, q1, q2, q3, q4, q7⟩ := mv_none hm
    by_cases h5 : x.o = 5
    · rw [do_5 hm h5] at h; cases h
      exact ⟨[], nil _, by simp [h5], by simp [h5]⟩
    by_cases h6 : x.o = 6
    · by_cases hz : s.r x.a = 0
      · rw [do_6z hm h6 hz] at h; cases h
        exact ⟨_, rfl, by simp [h6], by simp [h6]⟩
      · rw [do_6n hm h6 hz] at h; cases h
        exact ⟨_, rfl, by simp [h6], by simp [h6]⟩
    have fin : ∀ s2 : Cf, s2.tr = s.tr → s2.pc = s.pc + 1 → ∃ E, s2.tr = s.tr ++ E ∧ E.length = (if x.o = 6 then 1 else if x.o = 3 then (if 1 < cellsV' c x.b then 1 else 0) else if x.o = 4 then (if 1 < cellsV' c x.a then 1 else 0) else 0) ∧
        s2.pc = (if x.o = 5 then x.a else if x.o = 6 then (if E = [(⟨0, s.pc, 1⟩ : Ev)] then x.b else s.pc + 1) else s.pc + 1) := fun s2 e1 e2 => ⟨[], by rw [e1]; exact nil _, by simp [h6, q3, q4], by rw [if_neg h5, if_neg h6]; exact e2⟩
    by_cases h8 : x.o = 8
    · by_cases hz : pk.length ≤ s.us
      · rw [do_8e hm h8 hz] at h; cases h
      · rw [do_8 hm h8 (by omega)] at h; cases h; exact fin _ rfl rfl
    by_cases h9 : x.o = 9
    · by_cases hz : s.r x.a = 0
      · rw [do_9z hm h9 hz] at h; cases h
      · rw [do_9n hm h9 hz] at h; cases h; exact fin _ rfl rfl
    by_cases h10 : x.o = 10
    · by_cases hz : s.r x.a = 0
      · rw [do_10z hm h10 hz] at h; cases h
      · rw [do_10n hm h10 hz] at h; cases h; exact fin _ rfl rfl
    rw [do_11 hm (op_11 hx q0 q1 q2 q3 q4 h5 h6 q7 h8 h9 h10)] at h; cases h
theorem seen_same {c : Cd} {pa pb : List Int} (hC : codeP c) (ha : wdsP c.w pa) (hb : wdsP c.w pb) : ∀ {n : Nat} {s t : Cf}, Gd c pa s → Gd c pb t → s.pc = t.pc → s.tl = t.tl → s.tr = t.tr → (runP c pa n s).2 = 0 → (runP c pb n t).2 = 0 → (runP c pa n s).1.tr = (runP c pb n t).1.tr → (runP c pa n s).1.tl = (runP c pb n t).1.tl
  | 0, s, t, _, _, _, _, _, h, _, _ => by cases h
  | n + 1, s, t, gs, gt, hp, hl, hr, e1, e2, he => by
    have hx := gs.ins_ok hC
    have hi : t.ins c = s.ins c := by show c.ins.getD t.pc.toNat default = c.ins.getD s.pc.toNat default; rw [hp]
    rw [runP] at e1 e2 he ⊢
    rw [runP] at he ⊢
    rcases hd1 : doP c pa (s.ins c) s.tick with ⟨s', _ | o1⟩ <;> rcases hd2 : doP c pb (t.ins c) t.tick with ⟨t', _ | o2⟩ <;> rw [hd1] at e1 he <;> rw [hd2] at e2 he
    · obtain ⟨g1, g2⟩ := Gd.step hC ha gs hd1
      obtain ⟨k1, k2⟩ := Gd.step hC hb gt hd2
      obtain ⟨E1, a1, a2, a3⟩ := step_ev hx hd1
      obtain ⟨E2, b1, b2, b3⟩ := step_ev (by rw [hi]; exact hx) hd2
      rw [hi] at b2 b3
      have hlen : E1.length = E2.length := by rw [a2, b2]
      obtain ⟨_, ⟨L1, x1⟩, _⟩ := run_ext (c := c) (pk := pa) (n := n) (s := s')
      obtain ⟨_, ⟨L2, x2⟩, _⟩ := run_ext (c := c) (pk := pb) (n := n) (s := t')
      have he' : (runP c pa n s').1.tr = (runP c pb n t').1.tr := he
      rw [x1, x2, a1, b1] at he'
      have hEE : E1 = E2 := by
        have h0 : s.tick.tr = t.tick.tr := hr
        rw [h0, List.append_assoc, List.append_assoc] at he'
        exact (List.append_inj (List.append_cancel_left he') hlen).1
      refine seen_same hC ha hb (n := n) g1 k1 ?_ (by rw [g2, k2, hl, hp]) ?_ e1 e2 he
      · rw [a3, b3, hEE, show s.tick.pc = t.tick.pc from hp]
      · rw [a1, b1, hEE, show s.tick.tr = t.tick.tr from hr]
    · cases e2
      have h11 := end_0 (by rw [hi]; exact hx) hd2
      rw [hi] at h11
      exact absurd h11 (do_none hd1)
    · cases e1
      have h11 := end_0 hx hd1
      rw [← hi] at h11
      exact absurd h11 (do_none hd2)
    · obtain rfl := do_end hd1
      obtain rfl := do_end hd2
      show s.tl ++ [s.pc] = t.tl ++ [t.pc]
      rw [hl, hp]
end Go.Proofs.Ytffdcbhhajagjaa.Hm.V
