import Derived.Test.YtlidnionbofkaaaHF
import Derived.Test.YtlidnionbofkaaaA6
import Derived.Test.YtlidnionbofkaaaVB0
import Derived.Test.YtlidnionbofkaaaVQ7
namespace Go.Proofs.Ytlidnionbofkaaa.Hm.V
open Go
set_option linter.all false
set_option maxRecDepth 100000
attribute [local irreducible] X XG S R D W Call CallG Upd Rds Rck Sees Res Cel CallP fnQ fnG
def bnd (r : List UInt8) : Prop := ∀ c, r.head? = some c → isNam c = false
theorem bnd_cons {c : UInt8} {r : List UInt8} (h : isNam c = false) : bnd (c :: r) := fun d hd => by
  have : c = d := by simpa using hd
  rw [← this]; exact h
theorem span_app {p : UInt8 → Bool} : ∀ (t r : List UInt8), (∀ c ∈ t, p c = true) → (∀ c, r.head? = some c → p c = false) → spanB p (t ++ r) = t.length
  | [], [], _, _ => rfl
  | [], c :: r, _, h => by
    rw [List.nil_append, spanB, if_neg (by rw [h c rfl]; decide)]; rfl
  | c :: t, r, h, h2 => by
    rw [List.cons_append, spanB, if_pos (h c (by simp)), span_app t r (fun x hx => h x (by simp [hx])) h2, List.length_cons]
theorem lex_tok {t r : List UInt8} {c : UInt8} {u : List UInt8} (ht : t = c :: u) (h32 : ¬ c.toNat = 32) (hn : tokN (t ++ r) = t.length) : lexL (t ++ r) = t :: lexL r := by
  subst ht
  have h := lexL_tok (c := c) (cs := u ++ r) h32 (by rw [← List.cons_append, hn]; simp)
  rw [← List.cons_append, hn] at h
  rw [h, List.take_left', List.drop_left'] <;> rfl
theorem isDig_nam {c : UInt8} (h : isNam c = false) : isDig c = false := by
  unfold isNam at h
  cases h1 : isDig c with
  | false => rfl
  | true => rw [h1] at h; simp at h
theorem lex_num {n : Nat} {r : List UInt8} (hn : n < 256) (hr : bnd r) : lexL (digW n ++ r) = digW n :: lexL r := by
  obtain ⟨h1, h2, h3, h4⟩ := dig_all ⟨n, hn⟩
  simp only at h1 h2 h3 h4
  cases e : digW n with
  | nil => rw [e] at h1; cases h1
  | cons c u =>
    rw [e] at h1 h4
    have hd : isDig c = true := h1
    have h32 : ¬ c.toNat = 32 := by
      unfold isDig at hd
      simp only [decide_eq_true_eq] at hd
      omega
    refine lex_tok rfl h32 ?_
    rcases h4 with h4 | h4
    · have hc : c = 48 := by simpa using (List.cons.inj h4).1
      have hu : u = [] := (List.cons.inj h4).2
      subst hc; subst hu
      rfl
    · simp only [Bool.and_eq_true, Bool.not_eq_true', decide_eq_false_iff_not, List.all_eq_true, List.getD_cons_zero] at h4
      rw [List.cons_append, tokN, if_neg h4.1, if_pos hd, ← List.cons_append]
      exact span_app _ _ h4.2 fun c hc => isDig_nam (hr c hc)
theorem lex_name {t r : List UInt8} (ht : nameP t) (hr : bnd r) : lexL (t ++ r) = t :: lexL r := by
  obtain ⟨h1, h2, h3, h4, h5⟩ := ht
  cases t with
  | nil => simp at h1
  | cons c u =>
    have hl : isLet c = true := h3
    have hl2 := hl
    unfold isLet at hl2
    simp only [decide_eq_true_eq] at hl2
    have hd : ¬ isDig c = true := by
      unfold isDig
      simp only [decide_eq_true_eq]
      omega
    refine lex_tok rfl (by omega) ?_
    rw [List.cons_append, tokN, if_neg (by omega), if_neg hd, if_pos hl, ← List.cons_append]
    refine span_app _ _ (fun x hx => ?_) hr
    obtain ⟨i, hi, rfl⟩ := List.getElem_of_mem hx
    have := h4 i hi
    rwa [getD_eq hi] at this
theorem find_first {p : Tok → Bool} : ∀ (l : List Tok) (t : Tok), t ∈ l → p t = true → (∀ m ∈ l.takeWhile (fun m => decide (m ≠ t)), p m = true → m = t) → l.find? p = some t
  | [], t, h, _, _ => absurd h (by simp)
  | a :: l, t, h, ht, hf => by
    by_cases e : a = t
    · rw [List.find?_cons_of_pos (by rw [e]; exact ht), e]
    · rw [List.takeWhile_cons_of_pos (by simpa using e)] at hf
      have ha : ¬ p a = true := fun q => e (hf a (by simp) q)
      rw [List.find?_cons_of_neg ha]
      exact find_first l t ((List.mem_cons.1 h).resolve_left fun q => e q.symm) ht fun m hm => hf m (List.mem_cons_of_mem _ hm)
theorem markL_of {t r : List UInt8} (hm : t ∈ marksL) (h : ∀ m ∈ marksL.takeWhile (fun m => decide (m ≠ t)), preB m (t ++ r) = true → m = t) : markL marksL (t ++ r) = t.length := by
  unfold markL
  have hp : preB t (t ++ r) = true := by
    unfold preB
    rw [decide_eq_true_eq, List.length_append]
    exact ⟨by omega, List.take_left' rfl⟩
  rw [find_first marksL t hm hp h]
theorem isDig_48b {c : UInt8} (h : c.toNat = 48) : isDig c = true := by unfold isDig; simp only [decide_eq_true_eq]; omega
theorem lex_mark {t r : List UInt8} {c : UInt8} {u : List UInt8} (ht : t = c :: u) (hd : isDig c = false) (hl : isLet c = false) (h32 : ¬ c.toNat = 32) (hm : t ∈ marksL) (h : ∀ m ∈ marksL.takeWhile (fun m => decide (m ≠ t)), preB m (t ++ r) = true → m = t) : lexL (t ++ r) = t :: lexL r := by
  refine lex_tok ht h32 ?_
  have h0 := markL_of hm h
  subst ht
  rw [List.cons_append, tokN, if_neg (by intro q; rw [isDig_48b q] at hd; cases hd), if_neg (by rw [hd]; decide), if_neg (by rw [hl]; decide), ← List.cons_append]
  exact h0
theorem pre_one {c : UInt8} {m r : List UInt8} (h : preB m (c :: r) = true) (hm : m ∈ marksL) : m.head? = some c := by
  unfold preB at h
  rw [decide_eq_true_eq] at h
  have := marks_pos hm
  cases m with
  | nil => simp at this
  | cons x m =>
    have h2 := h.2
    rw [List.length_cons, List.take_succ_cons] at h2
    have := (List.cons.inj h2).1
    rw [← this]; rfl
theorem lex_one {c : UInt8} {r : List UInt8} (hd : isDig c = false) (hl : isLet c = false) (h32 : ¬ c.toNat = 32) (hm : [c] ∈ marksL) (h : ∀ m ∈ marksL, m.head? = some c → m = [c]) : lexL (c :: r) = [c] :: lexL r :=
  lex_mark (t := [c]) rfl hd hl h32 hm fun m h1 h2 => h m ((List.takeWhile_sublist _).mem h1) (pre_one h2 ((List.takeWhile_sublist _).mem h1))
theorem lex_sp {r : List UInt8} : lexL (32 :: r) = lexL r := lexL_sp rfl
theorem lex_91 {r : List UInt8} : lexL (91 :: r) = [91] :: lexL r := lex_one (by decide) (by decide) (by decide) (by decide) (by decide)
theorem lex_93 {r : List UInt8} : lexL (93 :: r) = [93] :: lexL r := lex_one (by decide) (by decide) (by decide) (by decide) (by decide)
theorem lex_64 {r : List UInt8} : lexL (64 :: r) = [64] :: lexL r := lex_one (by decide) (by decide) (by decide) (by decide) (by decide)
theorem lex_126 {r : List UInt8} : lexL (126 :: r) = [126] :: lexL r := lex_one (by decide) (by decide) (by decide) (by decide) (by decide)
theorem lex_40 {r : List UInt8} : lexL (40 :: r) = [40] :: lexL r := lex_one (by decide) (by decide) (by decide) (by decide) (by decide)
theorem lex_41 {r : List UInt8} : lexL (41 :: r) = [41] :: lexL r := lex_one (by decide) (by decide) (by decide) (by decide) (by decide)
theorem lex_63 {r : List UInt8} : lexL (63 :: r) = [63] :: lexL r := lex_one (by decide) (by decide) (by decide) (by decide) (by decide)
theorem lex_58 {r : List UInt8} : lexL (58 :: r) = [58] :: lexL r := lex_one (by decide) (by decide) (by decide) (by decide) (by decide)
theorem lex_sign {op : Int} (h : IsOp op) {r : List UInt8} : lexL (signV op ++ 32 :: r) = signV op :: lexL (32 :: r) := by
  have hin : signV op ∈ signL.map (·.1) := by
    unfold IsOp at h
    obtain ⟨j, rfl⟩ : ∃ j : Fin 13, op = ((j.val + 2 : Nat) : Int) := ⟨⟨(op - 2).toNat, by omega⟩, by simp; omega⟩
    have key : ∀ j : Fin 13, j.val + 2 ≠ 12 → signV ((j.val + 2 : Nat) : Int) ∈ signL.map (·.1) := by decide
    exact key j (by omega)
  have hs : ∀ t ∈ signL.map (·.1), t ≠ [] ∧ isDig (t.headD 0) = false ∧ isLet (t.headD 0) = false ∧ ¬ (t.headD 0).toNat = 32 ∧ t ∈ marksL ∧ t.length ≤ 2 ∧ ∀ m ∈ marksL.takeWhile (fun m => decide (m ≠ t)), m.length ≤ 2 ∧ (m.length ≤ t.length → m = t.take m.length → m = t) ∧ (t.length < m.length → m = t ++ [32] → False) := by decide
  obtain ⟨h0, h1, h2, h3, h4, h5, h6⟩ := hs _ hin
  generalize signV op = t at *
  cases t with
  | nil => exact absurd rfl h0
  | cons c u =>
    refine lex_mark rfl h1 h2 h3 h4 fun m hm hp => ?_
    obtain ⟨q1, q2, q3⟩ := h6 m hm
    unfold preB at hp
    rw [decide_eq_true_eq] at hp
    have hp2 := hp.2
    by_cases hl : m.length ≤ (c :: u).length
    · refine q2 hl ?_
      rw [List.take_append_of_le_length hl] at hp2
      exact hp2.symm
    · have hl2 : m.length = (c :: u).length + 1 := by
        have := marks_pos ((List.takeWhile_sublist _).mem hm)
        simp only [List.length_cons] at hl ⊢
        omega
      refine (q3 (by omega) ?_).elim
      rw [hl2, List.take_length_add_append] at hp2
      rw [← hp2]; rfl
def tkN (k : Int) (vs : List Vr) (op n c : Int) (l : List (List Tok)) : List Tok :=
  if op = 0 then [digW n.toNat]
  else if op = 1 then (if 1 < k then [(vs.getD n.toNat default).nm, [64], digW c.toNat] else [(vs.getD n.toNat default).nm]) ++ (if 0 < l.length then [91] :: (l.getD 0 default ++ [[93]]) else [])
  else if op = 12 then [126] :: l.getD 0 default
  else if op = 15 then [40] :: (l.getD 0 default ++ [63] :: (l.getD 1 default ++ [58] :: (l.getD 2 default ++ [[41]])))
  else [40] :: (l.getD 0 default ++ signV op :: (l.getD 1 default ++ [[41]]))
mutual
def tkE (k : Int) (vs : List Vr) : Ex → List Tok
  | .mk op n c ks => tkN k vs op n c (tkL k vs ks)
def tkL (k : Int) (vs : List Vr) : List Ex → List (List Tok)
  | [] => []
  | a :: ks => tkE k vs a :: tkL k vs ks
end
theorem tkL_eq {k : Int} {vs : List Vr} : ∀ {ks : List Ex}, tkL k vs ks = ks.map (tkE k vs)
  | [] => rfl
  | a :: ks => by rw [tkL, tkL_eq]; rfl
theorem tkE_mk {k : Int} {vs : List Vr} {op n c : Int} {ks : List Ex} : tkE k vs (.mk op n c ks) = tkN k vs op n c (ks.map (tkE k vs)) := by rw [tkE, tkL_eq]
theorem headP_name {w : Int} {vs : List Vr} (h : headP w vs) {i : Nat} (hi : i < vs.length) : nameP (vs.getD i default).nm := (h.2.2.2.1 i hi).1
theorem lexE {w : Int} {vs : List Vr} {k : Int} (hH : headP w vs) (hk3 : k ≤ 3) : ∀ (e : Ex), formE w vs k e → ∀ r, bnd r → lexL (prE k vs e ++ r) = tkE k vs e ++ lexL r := by
  have hpw := pow_w hH.1.1 hH.1.2
  intro e
  induction e using Ex.ind with
  | h op n c ks ih =>
    rw [formE_mk]
    rintro ⟨hnd, hfk⟩ r hr
    rw [prE_mk, tkE_mk]
    obtain ⟨hn1, hn2, hn3, hn4, hn5, hn6⟩ := nodeP_arity hnd
    have hc : ∀ j, j < ks.length → ∀ r, bnd r → lexL ((ks.map (prE k vs)).getD j default ++ r) = (ks.map (tkE k vs)).getD j default ++ lexL r := fun j hj r hr => by
      rw [map_get hj, map_get hj]; exact ih _ (getD_in hj) (hfk j hj) r hr
    have hm1 : (ks.map (prE k vs)).length = ks.length := List.length_map _
    have hm2 : (ks.map (tkE k vs)).length = ks.length := List.length_map _
    have hc0 := hc 0
    have hc1 := hc 1
    have hc2 := hc 2
    have b93 : ∀ r, bnd (93 :: r) := fun r => bnd_cons (by decide)
    have b41 : ∀ r, bnd (41 :: r) := fun r => bnd_cons (by decide)
    have b32 : ∀ r, bnd (32 :: r) := fun r => bnd_cons (by decide)
    have b91 : ∀ r, bnd (91 :: r) := fun r => bnd_cons (by decide)
    have b64 : ∀ r, bnd (64 :: r) := fun r => bnd_cons (by decide)
    unfold prN tkN
    rw [hm1, hm2]
    by_cases h0 : op = 0
    · rw [if_pos h0, if_pos h0]
      have q := ((nodeP_0 h0).1 hnd).2.2.2
      unfold wrdP at q
      rw [lex_num (by omega) hr]; rfl
    rw [if_neg h0, if_neg h0]
    by_cases h1 : op = 1
    · rw [if_pos h1, if_pos h1]
      obtain ⟨_, q1, q2, q3, q4⟩ := hn3 h1
      have hnm := headP_name hH (i := n.toNat) (by omega)
      by_cases hl : 0 < ks.length
      · rw [if_pos hl, if_pos hl]
        by_cases hk : 1 < k
        · rw [if_pos hk, if_pos hk]
          simp only [List.append_assoc, List.cons_append, List.nil_append]
          rw [lex_name hnm (b64 _), lex_64, lex_num (by omega) (b91 _), lex_91, hc0 hl _ (b93 _), lex_93]
        · rw [if_neg hk, if_neg hk]
          simp only [List.append_assoc, List.cons_append, List.nil_append]
          rw [lex_name hnm (b91 _), lex_91, hc0 hl _ (b93 _), lex_93]
      · rw [if_neg hl, if_neg hl]
        by_cases hk : 1 < k
        · rw [if_pos hk, if_pos hk]
          simp only [List.append_assoc, List.cons_append, List.nil_append]
          rw [lex_name hnm (b64 _), lex_64, lex_num (by omega) hr]
        · rw [if_neg hk, if_neg hk]
          simp only [List.append_assoc, List.cons_append, List.nil_append]
          rw [lex_name hnm hr]
    rw [if_neg h1, if_neg h1]
    by_cases h2 : op = 12
    · rw [if_pos h2, if_pos h2]
      have := hn4 h2
      simp only [List.append_assoc, List.cons_append, List.nil_append]
      rw [lex_126, hc0 (by omega) _ hr]
    rw [if_neg h2, if_neg h2]
    by_cases h3 : op = 15
    · rw [if_pos h3, if_pos h3]
      have := hn5 h3
      simp only [List.append_assoc, List.cons_append, List.nil_append]
      rw [lex_40, hc0 (by omega) _ (b32 _), lex_sp, lex_63, lex_sp, hc1 (by omega) _ (b32 _), lex_sp, lex_58, lex_sp, hc2 (by omega) _ (b41 _), lex_41]
    rw [if_neg h3, if_neg h3]
    have h6 := hn6 h0 h1 h2 h3
    simp only [List.append_assoc, List.cons_append, List.nil_append]
    rw [lex_40, hc0 (by omega) _ (b32 _), lex_sp, lex_sign h6.2, lex_sp, hc1 (by omega) _ (b41 _), lex_41]
end Go.Proofs.Ytlidnionbofkaaa.Hm.V
