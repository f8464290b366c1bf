import Derived.Test.YtbjgnogcjglcoaaHF
import Derived.Test.YtbjgnogcjglcoaaA6
import Derived.Test.YtbjgnogcjglcoaaVD6
namespace Go.Proofs.Ytbjgnogcjglcoaa.Hm.V
open Go
set_option linter.all false
set_option maxRecDepth 100000
attribute [local irreducible] X S R D W Call Upd Rds Rck Sees Res Cel CallP fnQ
def cT (t : Nat → Nat) : List Value := cS (t 0) ++ (cS (t 1) ++ cS (t 2))
theorem cT_part {t : Nat → Nat} {k : Nat} (h : k < 3) : ((cT t).drop (k * 4)).take 4 = cS (t k) := by
  match k, h with
  | 0, _ => rfl
  | 1, _ => rfl
  | 2, _ => rfl
def putT (t : Nat → Nat) (k m : Nat) : Nat → Nat := fun j => if j = k then m else t j
theorem cT_put {t : Nat → Nat} {k m : Nat} (h : k < 3) : (cT t).take (k * 4) ++ (cS m ++ (cT t).drop (k * 4 + 4)) = cT (putT t k m) := by
  match k, h with
  | 0, _ => rfl
  | 1, _ => rfl
  | 2, _ => rfl
theorem cT_congr {t u : Nat → Nat} (h : ∀ k, k < 3 → t k = u k) : cT t = cT u := by
  unfold cT; rw [h 0 (by omega), h 1 (by omega), h 2 (by omega)]
section
variable {F : Nat → Option HFn} {lo N : Nat} {A : Tab} {Z : Vw} {O : List Pt} {K : Value → Vw → List Pt → Prop} {a y : Operand} {v w : Value} {f : Pt → List Pt} {g : List Pt}
theorem lET {l : List (Nat → Nat)} {i k m : Nat} [s : Se Z O v 12 (l.map cT)] (ha : evA A a = some (.pointer (some ⟨bb v, oo v + i * 12 + k * 4, none⟩))) (hi : i < l.length) (hk : k < 3) (he : l.getD i default k = m) : Rds lo (.load (some 4) a) N A Z O (vS m) := by
  have := L_elP (n := 4) (lo := lo) (N := N) ha s.out (map_at hi) (Nat.ble_eq_true_of_le (by omega))
  rw [cT_part hk, he] at this
  exact this
theorem xST {b k m : Nat} {t : Nat → Nat} [q : AtB O b (cT t) f g] (ha : evA A a = some (.pointer (some ⟨b, 0 + k * 4, none⟩))) (hy : evA A y = some (vS m)) (hk : k < 3) (kk : K undef Z (f (.box b (cT (putT t k m))))) : X F lo (.store 4 a y) N A Z O K := by
  rw [Nat.zero_add] at ha
  exact X_storeBC ha hy (.val rfl) rfl q.out (Nat.ble_eq_true_of_le (by show k * 4 + 4 ≤ 12; omega)) (cT_put hk) kk
end
section
variable {F : Nat → Option HFn} {lo N : Nat} {A : Tab} {Z : Vw} {O : List Pt} {K : Value → Vw → List Pt → Prop} {v : Value} {f : Pt → List Pt} {g : List Pt}
theorem x1Gs {args : List Operand} {k e : Nat} {xs : List (List Value)} {vs : List Value} {P : Value → Vw → Prop} [t : AtG O v e xs f g] (hc : Call1 F lo k vs Z (.gro v e xs) fun r Z' o' => o' = .gro v e xs ∧ P r Z') (ha : evsA A args = some vs) (kk : ∀ r Z', ZL Z Z' → P r Z' → K r Z' (.gro v e xs :: g)) : X F lo (.call (.func k) args) N A Z O K :=
  x1G hc ha fun r Z' o' hz hp => by
    obtain ⟨rfl, hp⟩ := hp
    exact kk r Z' hz hp
end
def dT : EqD := .cells 12 [(0, .int), (1, .int), (2, .int), (3, .int), (4, .int), (5, .int), (6, .int), (7, .int), (8, .int), (9, .int), (10, .int), (11, .int)]
theorem eqcells_some {xs ys : List Value} : ∀ {l : List (Nat × PK)}, (∀ o ∈ l, ∃ x y b, xs[o.1]? = some x ∧ ys[o.1]? = some y ∧ veq0 o.2 x y = some b) → ∃ q, eqcells xs ys l = some q
  | [], _ => ⟨true, rfl⟩
  | o :: os, h => by
    obtain ⟨x, y, b, h1, h2, h3⟩ := h o (by simp)
    obtain ⟨q, hq⟩ := eqcells_some (l := os) fun o' ho => h o' (by simp [ho])
    cases b
    · exact ⟨false, by simp only [eqcells, h1, h2, h3]⟩
    · exact ⟨q, by simp only [eqcells, h1, h2, h3, hq]⟩
theorem eqv_T (t u : Nat → Nat) : ∃ q, eqv dT (.agg ⟨cT t⟩) (.agg ⟨cT u⟩) = some q := by
  have h : eqv dT (.agg ⟨cT t⟩) (.agg ⟨cT u⟩) = eqcells (cT t) (cT u) [(0, .int), (1, .int), (2, .int), (3, .int), (4, .int), (5, .int), (6, .int), (7, .int), (8, .int), (9, .int), (10, .int), (11, .int)] := rfl
  rw [h]
  apply eqcells_some
  intro o ho
  simp only [List.mem_cons, List.not_mem_nil, or_false] at ho
  rcases ho with rfl | rfl | rfl | rfl | rfl | rfl | rfl | rfl | rfl | rfl | rfl | rfl <;> exact ⟨_, _, _, rfl, rfl, rfl⟩
structure AuR where
  a : Au
  vs : Value
  ve : Value
  vg : Value
instance : Inhabited AuR := ⟨⟨⟨0, 0, [], [], []⟩, undef, undef, undef⟩⟩
def AuR.c (r : AuR) : List Value := [.int .i64 r.a.S, .int .i64 r.a.L, r.vs, r.ve, r.vg]
structure okL (a : Au) : Prop where
  l0 : 1 ≤ a.L
  l1 : a.L ≤ 1024
  st : inSt a.st
  en : inSt a.en
  ed : inEd a.ed
theorem okL.of {a : Au} (h : isAutoP a) : okL a := ⟨h.2.2.1, h.2.2.2.1, isAuto_st h, isAuto_en h, isAuto_ed h⟩
structure AuRZ (Z : Vw) (r : AuR) : Prop where
  s : Ints Z r.vs r.a.st
  e : Ints Z r.ve r.a.en
  g : Eds Z r.vg r.a.ed
  q1 : r.a.st.length < 9223372036854775808
  q2 : r.a.en.length < 9223372036854775808
  q3 : r.a.ed.length < 9223372036854775808
  ok : okL r.a
def accR (w : List Int) (r : AuR) : Bool := decide (runW r.a w &&& setOf r.a.en ≠ 0)
def meantB (way : Int) (bs : List Bool) : Bool :=
  if way = 0 then bs.getD 0 default else if way = 1 then !bs.getD 0 default else if way = 2 then (bs.getD 0 default && bs.getD 1 default) else (bs.getD 0 default || bs.getD 1 default)
def lets (L : Int) (w : List Int) : Prop := ∀ c ∈ w, 0 ≤ c ∧ c < L
def Agr (rs : List AuR) (way : Int) : Prop := ∀ w, lets (rs.getD 0 default).a.L w → meantB way (rs.map (accR w)) = (rs.map (accR w)).getD (rs.length - 1) default
def tupP (rs : List AuR) (w : List Int) (k : Nat) : Nat → Nat := fun j => if j < k then runW (rs.getD j default).a w else 0
theorem tupP_step {rs : List AuR} {w : List Int} {k : Nat} : cT (putT (tupP rs w k) k (runW (rs.getD k default).a w)) = cT (tupP rs w (k + 1)) := cT_congr fun j _ => by
  unfold putT tupP
  by_cases h : j = k
  · subst h; simp
  · rw [if_neg h]
    by_cases h2 : j < k
    · rw [if_pos h2, if_pos (by omega)]
    · rw [if_neg h2, if_neg (by omega)]
theorem tupP_zero (rs : List AuR) (w : List Int) : List.replicate 12 (.int .u64 0) = cT (tupP rs w 0) := by
  have : tupP rs w 0 = fun _ => 0 := by funext j; simp [tupP]
  rw [this]
  unfold cT
  rw [cS_zero]; rfl
def Reach (rs : List AuR) (w : List Int) (t : Nat → Nat) : Prop := lets (rs.getD 0 default).a.L w ∧ ∀ k, k < rs.length → t k = runW (rs.getD k default).a w
def Reached (rs : List AuR) (todo : List (Nat → Nat)) : Prop := ∀ t ∈ todo, ∃ w, Reach rs w t
theorem runW_snoc (a : Au) (w : List Int) (c : Int) : runW a (w ++ [c]) = stepTo a.ed (runW a w) c := by unfold runW; rw [List.foldl_append]; rfl
theorem tupP_reach {rs : List AuR} {w : List Int} {c : Int} (h : lets (rs.getD 0 default).a.L w) (h0 : 0 ≤ c) (h1 : c < (rs.getD 0 default).a.L) : Reach rs (w ++ [c]) (tupP rs (w ++ [c]) rs.length) := by
  refine ⟨fun x hx => ?_, fun k hk => by simp only [tupP, if_pos hk]⟩
  rcases List.mem_append.1 hx with hx | hx
  · exact h x hx
  · rw [List.mem_singleton.1 hx]; exact ⟨h0, h1⟩
theorem Reached.snoc {rs : List AuR} {todo : List (Nat → Nat)} {t : Nat → Nat} {w : List Int} (h : Reached rs todo) (ht : Reach rs w t) : Reached rs (todo ++ [t]) := fun x hx => by
  rcases List.mem_append.1 hx with hx | hx
  · exact h x hx
  · rw [List.mem_singleton.1 hx]; exact ⟨w, ht⟩
theorem accR_take {rs : List AuR} {w : List Int} {k : Nat} (h : k < rs.length) : (rs.take (k + 1)).map (accR w) = (rs.take k).map (accR w) ++ [accR w (rs.getD k default)] := by
  rw [List.take_succ, getD_at h]; simp
set_option maxHeartbeats 4000000 in
theorem meant_ok (lo : Nat) {Z : Vw} {v : Value} {way : Int} {bs : List Bool} (h : 2 ≤ bs.length) : Call1 F lo 114 [.int .i64 way, v] Z (.gro v 1 (bs.map cB)) fun r _ o' => o' = .gro v 1 (bs.map cB) ∧ r = .bool (meantB way bs) := by
  refine Fn1 (fn := c114) rfl rfl rfl ?_
  (refine W_seq ?_; (refine W_rgn ?_; ((refine Ra rfl (X_mv rfl ?_)) <;> (refine R_nil ?_))) <;> ((refine thenQ_nrm ?_; (refine W_seq ?_; (refine W_seq ?_; (refine W_rgn ?_; ((refine Ra rfl (X_mv rfl ?_)) <;> (refine R_nil ?_))) <;> ((refine thenQ_nrm ?_; (refine W_block ?_; (refine W_seq ?_; (refine W_rgn ?_; ((refine Ra rfl (X_eql rfl rfl (fun _ => ?_) (fun _ => ?_))) <;> (refine Ra rfl (X_mv rfl ?_)) <;> (refine R_nil ?_))) <;> ((refine thenQ_nrm ?_; (refine W_cond rfl (fun ht => ?_) (fun ht => ?_) <;> (first | exact absurd ht (by decide) | (refine W_seq ?_; (refine W_rgn ?_; ((refine Ra rfl (X_mv rfl ?_)) <;> (refine Ra rfl (xIa rfl rfl (by omega) (by omega) ?_)) <;> (refine Ra rfl (X_load (lE0 rfl (by omega) rfl) ?_); (cases h0 : bs.getD 0 default)) <;> (refine Ra rfl (X_mv rfl ?_)) <;> (refine R_nil ?_))) <;> ((refine thenQ_nrm ?_; (refine W_ret ?_)))) | (refine W_seq ?_; (refine W_rgn ?_; ((refine Ra rfl (X_eql rfl rfl (fun _ => ?_) (fun _ => ?_))) <;> (refine Ra rfl (X_mv rfl ?_)) <;> (refine R_nil ?_))) <;> ((refine thenQ_nrm ?_; (refine W_cond rfl (fun ht => ?_) (fun ht => ?_) <;> (first | exact absurd ht (by decide) | (refine W_seq ?_; (refine W_rgn ?_; ((refine Ra rfl (X_mv rfl ?_)) <;> (refine Ra rfl (xIa rfl rfl (by omega) (by omega) ?_)) <;> (refine Ra rfl (X_load (lE0 rfl (by omega) rfl) ?_); (cases h0 : bs.getD 0 default)) <;> (refine Ra rfl (X_not rfl ?_)) <;> (refine Ra rfl (X_mv rfl ?_)) <;> (refine R_nil ?_))) <;> ((refine thenQ_nrm ?_; (refine W_ret ?_)))) | (refine W_seq ?_; (refine W_rgn ?_; ((refine Ra rfl (X_eql rfl rfl (fun _ => ?_) (fun _ => ?_))) <;> (refine Ra rfl (X_mv rfl ?_)) <;> (refine R_nil ?_))) <;> ((refine thenQ_nrm ?_; (refine W_cond rfl (fun ht => ?_) (fun ht => ?_) <;> (first | exact absurd ht (by decide) | (refine W_seq ?_; (refine W_rgn ?_; ((refine Ra rfl (X_mv rfl ?_)) <;> (refine Ra rfl (xIa rfl rfl (by omega) (by omega) ?_)) <;> (refine Ra rfl (X_load (lE0 rfl (by omega) rfl) ?_); (cases h0 : bs.getD 0 default)) <;> (refine Ra rfl (X_mv rfl ?_)) <;> (first | (refine Rb rfl rfl (X_mv rfl ?_)) | (refine Rc rfl rfl ?_)) <;> (first | (refine Rb rfl rfl (xIa rfl rfl (by omega) (by omega) ?_)) | (refine Rc rfl rfl ?_)) <;> (first | (refine Rb rfl rfl (X_load (lE0 rfl (by omega) rfl) ?_); (cases h1 : bs.getD 1 default)) | (refine Rc rfl rfl ?_)) <;> (first | (refine Ra rfl (X_pickT rfl rfl ?_)) | (refine Ra rfl (X_pickF rfl rfl ?_))) <;> (refine Ra rfl (X_mv rfl ?_)) <;> (refine R_nil ?_))) <;> ((refine thenQ_nrm ?_; (refine W_ret ?_)))) | (refine W_skip ?_)))))))))))))))) <;> (first | refine blockQ_nrm ?_ | refine blockQ_ret ?_))))) <;> (first | refine thenQ_ret ?_ | (refine thenQ_nrm ?_; (refine W_seq ?_; (refine W_rgn ?_; ((refine Ra rfl (X_mv rfl ?_)) <;> (refine Ra rfl (xIa rfl rfl (by omega) (by omega) ?_)) <;> (refine Ra rfl (X_load (lE0 rfl (by omega) rfl) ?_); (cases h0 : bs.getD 0 default)) <;> (refine Ra rfl (X_mv rfl ?_)) <;> (first | (refine Rb rfl rfl (X_mv rfl ?_)) | (refine Rc rfl rfl ?_)) <;> (first | (refine Rb rfl rfl (xIa rfl rfl (by omega) (by omega) ?_)) | (refine Rc rfl rfl ?_)) <;> (first | (refine Rb rfl rfl (X_load (lE0 rfl (by omega) rfl) ?_); (cases h1 : bs.getD 1 default)) | (refine Rc rfl rfl ?_)) <;> (first | (refine Ra rfl (X_pickT rfl rfl ?_)) | (refine Ra rfl (X_pickF rfl rfl ?_))) <;> (refine Ra rfl (X_mv rfl ?_)) <;> (refine R_nil ?_))) <;> ((refine thenQ_nrm ?_; (refine W_ret ?_))))))))))
  <;> (refine fn1_ret (Res.tmp rfl Res.nil) (hG (v := v) rfl Has.nil) ?_)
  all_goals
    refine ⟨rfl, ?_⟩
    unfold meantB
    first
      | (rw [if_pos (by omega), h0]; rfl)
      | (rw [if_neg (by omega), if_pos (by omega), h0]; rfl)
      | (rw [if_neg (by omega), if_neg (by omega), if_pos (by omega), h0]; first | rfl | (rw [h1]; rfl))
      | (rw [if_neg (by omega), if_neg (by omega), if_neg (by omega), h0]; first | rfl | (rw [h1]; rfl))
set_option maxHeartbeats 4000000 in
theorem met_ok (lo : Nat) {Z : Vw} {v : Value} {l : List (Nat → Nat)} {t : Nat → Nat} (hlen : l.length < 9223372036854775808) : Call1 F lo 115 [v, .agg ⟨cT t⟩] Z (.gro v 12 (l.map cT)) fun r _ o' => o' = .gro v 12 (l.map cT) ∧ ∃ b, r = .bool b := by
  refine Fn1 (fn := c115) rfl rfl rfl ?_
  (refine W_seq ?_; (refine W_rgn ?_; ((refine Ra rfl (xBox rfl (fun b3 => ?_))) <;> (refine Ra rfl (X_mv rfl ?_)) <;> (refine R_nil ?_))) <;> ((refine thenQ_nrm ?_; (refine W_seq ?_; (refine W_seq ?_; (refine W_rgn ?_; ((refine Ra rfl (X_mv rfl ?_)) <;> (refine R_nil ?_))) <;> ((refine thenQ_nrm ?_; (refine W_block ?_; ((
      refine wLoop (fun i : Nat => [(5, .int .i64 i)]) (fun i => [.gro v 12 (l.map cT), .box b3 (cT t)]) (fun i Zi => i ≤ l.length) (fun i => l.length - i) 0 (by repeat' (first | exact trivial | exact rfl | constructor)) (Upd.done ⟨Nat.zero_le _, (hG rfl (hB rfl Has.nil))⟩) ?_
      intro i Z1 hz1 hp
      obtain ⟨q, hq⟩ := eqv_T (l.getD i default) t) <;> (refine W_seq ?_; (refine W_seq ?_; (refine W_rgn ?_; ((refine Ra rfl (X_mv rfl ?_)) <;> (refine Ra rfl (X_mv rfl ?_)) <;> (refine Ra rfl (xLen rfl ?_)) <;> (refine Ra rfl (X_lss rfl rfl (fun _ => ?_) (fun _ => ?_))) <;> (refine R_nil ?_))) <;> ((refine thenQ_nrm ?_; (refine W_cond rfl (fun ht => ?_) (fun ht => ?_) <;> (first | exact absurd ht (by decide) | (refine W_skip ?_) | (refine W_exit ?_)))))) <;> (first | refine thenQ_ext ?_ | (refine thenQ_nrm ?_; (refine W_seq ?_; (refine W_block ?_; (refine W_seq ?_; (refine W_drw ?_; ((refine Da rfl rfl (X_mv rfl ?_)) <;> (refine Da rfl rfl (X_mv rfl ?_)) <;> (refine Da rfl rfl (xIa rfl rfl (by omega) (by omega) ?_)) <;> (refine Da rfl rfl (X_load (lEA rfl (by omega)) ?_)) <;> (refine Da rfl rfl (X_load (lBA rfl rfl) ?_)) <;> (refine Da rfl rfl (X_eq rfl rfl hq ?_); (cases q)) <;> (refine D_nil ?_))) <;> ((refine thenQ_nrm ?_; (refine W_cond rfl (fun ht => ?_) (fun ht => ?_) <;> (first | exact absurd ht (by decide) | (refine W_seq ?_; (refine W_rgn ?_; ((refine Ra rfl (X_mv rfl ?_)) <;> (refine R_nil ?_))) <;> ((refine thenQ_nrm ?_; (refine W_ret ?_)))) | (refine W_skip ?_)))))) <;> (first | refine blockQ_nrm ?_ | refine blockQ_ret ?_)) <;> (first | refine thenQ_ret ?_ | (refine thenQ_nrm ?_; (refine W_rgn ?_; ((refine Ra rfl (X_mv rfl ?_)) <;> (refine Ra rfl (X_addI rfl rfl (by omega) (by omega) ?_)) <;> (refine Ra rfl (X_mv rfl ?_)) <;> (refine R_nil ?_))))))))) <;> (first | refine thenQ_ret ?_ | refine thenQ_ext ?_ | (refine thenQ_nrm ?_; (
        refine Upd.done ⟨i + 1, by omega, by omega, (by repeat' (first | exact trivial | exact rfl | constructor)), (hG rfl (hB rfl Has.nil))⟩)))) <;> (first | refine blockQ_ret ?_ | refine blockQ_ext ?_))))) <;> (first | refine thenQ_ret ?_ | (refine thenQ_nrm ?_; (refine W_seq ?_; (refine W_rgn ?_; ((refine Ra rfl (X_mv rfl ?_)) <;> (refine R_nil ?_))) <;> ((refine thenQ_nrm ?_; (refine W_ret ?_))))))))))
  <;> (refine fn1_ret (Res.tmp rfl Res.nil) (hG (v := v) rfl Has.nil) ?_)
  all_goals exact ⟨rfl, _, rfl⟩
end Go.Proofs.Ytbjgnogcjglcoaa.Hm.V
