/- Of layer 15: the clauses of a net, plainly. -/
import Derived.Test.YtgaplmpopgdfbaaHF
import Derived.Test.YtgaplmpopgdfbaaA6
import Derived.Test.YtgaplmpopgdfbaaVN7
namespace Go.Proofs.Ytgaplmpopgdfbaa.Hm.V
open Go
set_option linter.all false
set_option maxRecDepth 100000
attribute [local irreducible] X S R D W Call Upd Rds Rck Sees Res Cel CallP fnQ
def satL (m : List Int) (ls : List (List Int)) : Prop := ∀ cl ∈ ls, ∃ a ∈ cl, holdsP m a
theorem satP_iff {c : Cf} {m : List Int} : satP c m c.cl.length ↔ satL m c.cl := by
  constructor
  · intro h cl hcl
    obtain ⟨k, hk, rfl⟩ := List.getElem_of_mem hcl
    obtain ⟨j, hj, hh⟩ := h k hk
    rw [getD_eq hk] at hj hh
    rw [getD_eq hj] at hh
    exact ⟨_, List.getElem_mem hj, hh⟩
  · intro h k hk
    obtain ⟨a, ha, hh⟩ := h _ (List.getElem_mem hk)
    obtain ⟨j, hj, rfl⟩ := List.getElem_of_mem ha
    refine ⟨j, by rw [getD_eq hk]; exact hj, ?_⟩
    rw [getD_eq hk, getD_eq hj]
    exact hh
theorem satL_app {m : List Int} {a b : List (List Int)} : satL m (a ++ b) ↔ satL m a ∧ satL m b := by unfold satL; exact List.forall_mem_append
theorem holds_pos {m : List Int} {i : Nat} : holdsP m ((i : Int) + 1) ↔ m.getD i default = 1 := by
  unfold holdsP; rw [if_pos (by omega), show ((i : Int) + 1 - 1).toNat = i by omega]
theorem holds_neg {m : List Int} {i : Nat} : holdsP m (-((i : Int) + 1)) ↔ m.getD i default = 0 := by
  unfold holdsP; rw [if_neg (by omega), show (-(-((i : Int) + 1)) - 1).toNat = i by omega]
theorem take_getD {m : List Int} {i k : Nat} (h : i < k) : (m.take k).getD i default = m.getD i default := by
  rw [List.getD_eq_getElem?_getD, List.getD_eq_getElem?_getD, List.getElem?_take_of_lt h]
theorem take_snoc {m : List Int} {j : Nat} (h : j < m.length) : m.take (j + 1) = m.take j ++ [m.getD j default] := by
  rw [List.take_succ, getD_at h]; rfl
theorem digs.take {m : List Int} (h : digs m) (k : Nat) : digs (m.take k) := fun x hx => h x (List.mem_of_mem_take hx)
theorem lit_holds {m : List Int} {k s : Nat} {a : Int} (hd : digs m) (hl : m.length = s + 1) (hT : m.getD s default = 1) (hk : k ≤ s) (h : litP a k) : (holdsP m (litI ((s : Int) + 1) a) ↔ valI (m.take k) a = 1) ∧ (holdsP m (-litI ((s : Int) + 1) a) ↔ valI (m.take k) a = 0) := by
  unfold litP at h
  unfold litI valI
  by_cases h0 : a = 0
  · subst h0
    rw [if_pos rfl, if_pos (by decide), Int.neg_neg, holds_neg, holds_pos, hT]
    decide
  · by_cases h1 : a = 1
    · subst h1
      rw [if_neg (by decide), if_pos rfl, if_pos (by decide), holds_neg, holds_pos, hT]
      decide
    · obtain ⟨j, hj⟩ : ∃ j : Nat, a / 2 = (j : Int) + 1 := ⟨(a / 2 - 1).toNat, by omega⟩
      have hx : dig (m.getD j default) := hd.at (by omega)
      have e : (a / 2 - 1).toNat = j := by omega
      rw [if_neg h0, if_neg h1, if_neg (show ¬ a < 2 by omega), e, take_getD (show j < k by omega), hj]
      unfold dig at hx
      by_cases h2 : a % 2 = 0
      · rw [if_pos h2, if_pos h2, holds_neg, holds_pos]
        exact ⟨Iff.rfl, Iff.rfl⟩
      · rw [if_neg h2, if_neg h2, Int.neg_neg, holds_neg, holds_pos]
        constructor <;> omega
theorem gate_sat {m : List Int} {K i s : Nat} {g : Gt} (hd : digs m) (hl : m.length = s + 1) (hT : m.getD s default = 1) (hi : K + i < s) (ha : litP g.a ((K + i : Nat) : Int)) (hb : litP g.b ((K + i : Nat) : Int)) :
    satL m (gateCl K ((s : Int) + 1) i g) ↔ m.getD (K + i) default = valI (m.take (K + i)) g.a * valI (m.take (K + i)) g.b := by
  obtain ⟨a1, a2⟩ := lit_holds hd hl hT (by omega) ha
  obtain ⟨b1, b2⟩ := lit_holds hd hl hT (by omega) hb
  have hx : dig (m.getD (K + i) default) := hd.at (by omega)
  have htl : (m.take (K + i)).length = K + i := by rw [List.length_take]; omega
  have hva := valI_dig (hd.take (K + i)) (show litP g.a ((m.take (K + i)).length : Nat) by rw [htl]; exact ha)
  have hvb := valI_dig (hd.take (K + i)) (show litP g.b ((m.take (K + i)).length : Nat) by rw [htl]; exact hb)
  have eq : (K : Int) + i + 1 = ((K + i : Nat) : Int) + 1 := by omega
  have e : satL m (gateCl K ((s : Int) + 1) i g) ↔ (holdsP m (-((K : Int) + i + 1)) ∨ holdsP m (litI ((s : Int) + 1) g.a)) ∧ (holdsP m (-((K : Int) + i + 1)) ∨ holdsP m (litI ((s : Int) + 1) g.b)) ∧ (holdsP m ((K : Int) + i + 1) ∨ holdsP m (-litI ((s : Int) + 1) g.a) ∨ holdsP m (-litI ((s : Int) + 1) g.b)) := by
    unfold satL gateCl
    simp only [List.mem_cons, List.not_mem_nil, or_false, forall_eq_or_imp, forall_eq, exists_eq_or_imp, exists_eq_left]
  rw [e, eq, holds_neg, holds_pos, a1, a2, b1, b2]
  rcases hx with h1 | h1 <;> rcases hva with h2 | h2 <;> rcases hvb with h3 | h3 <;> rw [h1, h2, h3] <;> decide
theorem cls_sat {m inp : List Int} {gs : List Gt} {K : Nat} (hK : inp.length = K) (hd : digs m) (hl : m.length = K + gs.length + 1) (hT : m.getD (K + gs.length) default = 1) (hin : m.take K = inp) (hg : ∀ i, i < gs.length → gtOk K gs i) :
    ∀ i, i ≤ gs.length → (satL m (clsL K (((K + gs.length : Nat) : Int) + 1) gs i) ↔ m.take (K + i) = nodesL inp (gs.take i))
  | 0, _ => ⟨fun _ => hin, fun _ cl h => absurd h (by simp [clsL])⟩
  | i + 1, hi => by
    have ih := cls_sat hK hd hl hT hin hg i (by omega)
    obtain ⟨h1, h2⟩ := hg i hi
    have g := gate_sat (g := gs.getD i default) hd hl hT (show K + i < K + gs.length by omega) (by push_cast; exact h1) (by push_cast; exact h2)
    show satL m (clsL K _ gs i ++ gateCl K _ i (gs.getD i default)) ↔ _
    rw [satL_app, ih, g, nodesL_take hi, show K + (i + 1) = K + i + 1 from rfl, take_snoc (show K + i < m.length by omega)]
    unfold stepV
    constructor
    · rintro ⟨q1, q2⟩
      rw [q2, q1]
    · intro q
      have q1 := List.append_inj q (by rw [nodesL_tlen (by omega), List.length_take]; omega)
      have q2 : m.getD (K + i) default = _ := (List.cons.inj q1.2).1
      rw [q1.1]
      exact ⟨rfl, q2⟩
theorem sat_one {m : List Int} {a : Int} : satL m [[a]] ↔ holdsP m a := by unfold satL; simp
theorem net_sat {n : Nt} {inp m : List Int} {want : Int} (hN : isNet n) (hI : (inp.length : Int) = n.I) (hw : want = 0 ∨ want = 1) (hd : digs m) (hl : (m.length : Int) = tN n) (hin : m.take inp.length = inp) :
    satP ⟨tN n, clausesL n want⟩ m (clausesL n want).length ↔ m = nodesL inp n.gs ++ [1] ∧ valI (nodesL inp n.gs) n.out = want := by
  obtain ⟨n0, n1, n2, n3, n4⟩ := hN
  obtain ⟨K, hK⟩ : ∃ K, inp.length = K := ⟨_, rfl⟩
  have hIK : n.I = (K : Int) := by omega
  unfold tN at hl
  have hl2 : m.length = K + n.gs.length + 1 := by omega
  have et : tN n = ((K + n.gs.length : Nat) : Int) + 1 := by unfold tN; omega
  have hx : dig (m.getD (K + n.gs.length) default) := hd.at (by omega)
  have hm : m = m.take (K + n.gs.length) ++ [m.getD (K + n.gs.length) default] := by
    rw [← take_snoc (by omega), List.take_of_length_le (by omega)]
  show satP ⟨tN n, clausesL n want⟩ m (Cf.cl ⟨tN n, clausesL n want⟩).length ↔ _
  rw [satP_iff]
  show satL m (clsL n.I (tN n) n.gs n.gs.length ++ ([[tN n]] ++ [[if want = 0 then -litI (tN n) n.out else litI (tN n) n.out]])) ↔ _
  rw [satL_app, satL_app, sat_one, sat_one, et, hIK, holds_pos]
  have core (hT : m.getD (K + n.gs.length) default = 1) : (satL m (clsL K (((K + n.gs.length : Nat) : Int) + 1) n.gs n.gs.length) ↔ m.take (K + n.gs.length) = nodesL inp n.gs) ∧ (holdsP m (if want = 0 then -litI (((K + n.gs.length : Nat) : Int) + 1) n.out else litI (((K + n.gs.length : Nat) : Int) + 1) n.out) ↔ valI (m.take (K + n.gs.length)) n.out = want) := by
    have q := cls_sat hK hd hl2 hT (by rw [← hK]; exact hin) (fun i hi => by rw [← hIK]; exact n4 i hi) n.gs.length (Nat.le_refl _)
    rw [List.take_length] at q
    refine ⟨q, ?_⟩
    obtain ⟨a1, a2⟩ := lit_holds (a := n.out) hd hl2 hT (Nat.le_refl _) (by rw [hIK] at n3; push_cast; exact n3)
    rcases hw with rfl | rfl
    · rw [if_pos rfl]; exact a2
    · rw [if_neg (by decide)]; exact a1
  constructor
  · rintro ⟨q1, hT, q2⟩
    obtain ⟨c1, c2⟩ := core hT
    have c3 := c1.1 q1
    have c4 := c2.1 q2
    rw [c3] at c4
    exact ⟨by rw [hm, c3, hT], c4⟩
  · rintro ⟨q1, q2⟩
    have hnl : (nodesL inp n.gs).length = K + n.gs.length := by rw [nodesL_len, hK]
    have e1 : m.take (K + n.gs.length) = nodesL inp n.gs := by rw [q1, ← hnl, List.take_left]
    have hT : m.getD (K + n.gs.length) default = 1 := by
      rw [q1, ← hnl, List.getD_eq_getElem?_getD, List.getElem?_append_right (Nat.le_refl _), Nat.sub_self]; rfl
    obtain ⟨c1, c2⟩ := core hT
    exact ⟨c1.2 e1, hT, c2.2 (by rw [e1]; exact q2)⟩
/-! ### a net's clauses are clauses -/
theorem sumL_take (ls : List (List Int)) : ∀ i, i ≤ ls.length → sumL ls i = ((ls.take i).map List.length).sum
  | 0, _ => rfl
  | i + 1, h => by
    rw [List.take_succ, getD_at h]
    show sumL ls i + _ = _
    rw [sumL_take ls i (by omega)]
    simp
theorem lit_ok' {t : Int} {k : Int} {a : Int} (h : litP a k) (hk : k < t) : litC t (litI t a) ∧ litC t (-litI t a) := by
  unfold litP at h
  unfold litC litI
  split
  · omega
  · split
    · omega
    · split <;> omega
theorem cls_len (I t : Int) (gs : List Gt) : ∀ i, ((clsL I t gs i).map List.length).sum = 7 * i
  | 0 => rfl
  | i + 1 => by
    show ((clsL I t gs i ++ gateCl I t i (gs.getD i default)).map List.length).sum = _
    rw [List.map_append, List.sum_append, cls_len I t gs i]
    show 7 * i + 7 = _
    omega
theorem cls_lits {I t : Int} {gs : List Gt} (h0 : 0 ≤ I) (ht : I + gs.length + 1 = t) (hg : ∀ i, i < gs.length → gtOk I gs i) : ∀ i, i ≤ gs.length → ∀ cl ∈ clsL I t gs i, ∀ a ∈ cl, litC t a
  | 0, _ => fun cl h => absurd h (by simp [clsL])
  | i + 1, hi => fun cl hcl a ha => by
    have hcl : cl ∈ clsL I t gs i ++ gateCl I t i (gs.getD i default) := hcl
    rcases List.mem_append.1 hcl with h | h
    · exact cls_lits h0 ht hg i (by omega) cl h a ha
    · obtain ⟨h1, h2⟩ := hg i hi
      obtain ⟨p1, p2⟩ := lit_ok' h1 (show I + i < t by omega)
      obtain ⟨r1, r2⟩ := lit_ok' h2 (show I + i < t by omega)
      have q1 : litC t (I + i + 1) := by unfold litC; omega
      have q2 : litC t (-(I + i + 1)) := by unfold litC; omega
      unfold gateCl at h
      simp only [List.mem_cons, List.not_mem_nil, or_false] at h
      rcases h with rfl | rfl | rfl <;> simp only [List.mem_cons, List.not_mem_nil, or_false] at ha
      · rcases ha with rfl | rfl <;> assumption
      · rcases ha with rfl | rfl <;> assumption
      · rcases ha with rfl | rfl | rfl <;> assumption
theorem net_cnf {n : Nt} {want : Int} (hN : isNet n) (h7 : 7 * (n.gs.length : Int) + 2 ≤ 400000) : cnfP ⟨tN n, clausesL n want⟩ := by
  obtain ⟨n0, n1, n2, n3, n4⟩ := hN
  refine ⟨by show 0 ≤ n.I + n.gs.length + 1; omega, by show n.I + n.gs.length + 1 ≤ 200001; omega, ?_, fun k hk x hx => ?_⟩
  · show sumL (clausesL n want) (clausesL n want).length ≤ 400000
    rw [sumL_take _ _ (Nat.le_refl _), List.take_length]
    unfold clausesL
    rw [List.map_append, List.sum_append, cls_len]
    show 7 * n.gs.length + 2 ≤ 400000
    omega
  · have hk : k < (clausesL n want).length := hk
    have hx : x < ((clausesL n want).getD k default).length := hx
    show litC (tN n) (((clausesL n want).getD k default).getD x default)
    rw [getD_eq hk] at hx ⊢
    rw [getD_eq hx]
    have hm : (clausesL n want)[k] ∈ clausesL n want := List.getElem_mem hk
    have ha := List.getElem_mem hx
    generalize (clausesL n want)[k][x] = a at ha
    generalize (clausesL n want)[k] = cl at hm ha
    have et : tN n = n.I + n.gs.length + 1 := rfl
    obtain ⟨p1, p2⟩ := lit_ok' n3 (show n.I + n.gs.length < tN n by omega)
    unfold clausesL at hm
    rcases List.mem_append.1 hm with h | h
    · exact cls_lits n0 rfl n4 _ (Nat.le_refl _) cl h a ha
    · simp only [List.mem_cons, List.not_mem_nil, or_false] at h
      rcases h with rfl | rfl
      · rw [List.mem_singleton.1 ha]
        unfold litC
        omega
      · rw [List.mem_singleton.1 ha]
        split <;> assumption
end Go.Proofs.Ytgaplmpopgdfbaa.Hm.V
