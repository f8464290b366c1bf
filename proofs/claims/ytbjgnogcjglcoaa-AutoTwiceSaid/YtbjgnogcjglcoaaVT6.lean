import Derived.Test.YtbjgnogcjglcoaaHF
import Derived.Test.YtbjgnogcjglcoaaA6
import Derived.Test.YtbjgnogcjglcoaaVT5
import Derived.Test.YtbjgnogcjglcoaaSV
namespace Go.Proofs.Ytbjgnogcjglcoaa.Hm.V
open Go
set_option linter.all false
set_option maxRecDepth 100000
attribute [local irreducible] X S R D W Call Upd Rds Rck Sees Res Cel CallP fnQ
def byL (g : List Ed) (k : Nat) : List Ed := g.filter fun x => decide (x.l.toNat = k)
def byLs (n : Nat) (g : List Ed) : List (List Ed) := (List.range n).map (byL g)
theorem byL_take {g : List Ed} {i k : Nat} (h : i < g.length) : byL (g.take (i + 1)) k = if (g.getD i default).l.toNat = k then byL (g.take i) k ++ [g.getD i default] else byL (g.take i) k := by
  unfold byL
  rw [take_succ_at h, List.filter_append]
  generalize g.getD i default = y
  by_cases e : y.l.toNat = k
  · rw [if_pos e]; simp [e]
  · rw [if_neg e]; simp [e]
theorem byL_le (g : List Ed) (k : Nat) : (byL g k).length ≤ g.length := List.length_filter_le _ _
theorem byL_mem {g : List Ed} {k : Nat} {x : Ed} : x ∈ byL g k ↔ x ∈ g ∧ x.l.toNat = k := by unfold byL; rw [List.mem_filter, decide_eq_true_eq]
theorem byLs_len (n : Nat) (g : List Ed) : (byLs n g).length = n := by simp [byLs]
theorem byLs_at {n k : Nat} {g : List Ed} (h : k < n) : (byLs n g).getD k default = byL g k := by rw [getD_eq (by rw [byLs_len]; exact h)]; simp [byLs]
theorem byLs_small (n : Nat) (g : List Ed) (k : Nat) : ((byLs n g).getD k default).length ≤ g.length := by
  rcases Nat.lt_or_ge k n with h | h
  · rw [byLs_at h]; exact byL_le g k
  · rw [List.getD_eq_getElem?_getD, List.getElem?_eq_none (by rw [byLs_len]; exact h)]; exact Nat.zero_le _
theorem byLs_zero (n : Nat) : byLs n ([] : List Ed) = List.replicate n [] := by
  apply List.ext_getElem
  · simp [byLs]
  · intro i h1 h2; simp [byLs, byL]
theorem byLs_step {n i : Nat} {g : List Ed} (h : i < g.length) (ht : (g.getD i default).l.toNat < n) : (byLs n (g.take i)).set (g.getD i default).l.toNat ((byLs n (g.take i)).getD (g.getD i default).l.toNat default ++ [g.getD i default]) = byLs n (g.take (i + 1)) := by
  rw [byLs_at ht]
  apply List.ext_getElem
  · simp [byLs]
  · intro q h1 h2
    rw [List.getElem_set]
    have hq : q < n := by rw [byLs_len] at h2; exact h2
    have e1 : (byLs n (g.take (i + 1)))[q] = byL (g.take (i + 1)) q := by simp [byLs]
    rw [e1, byL_take h]
    split
    · rename_i e; rw [e]
    · rename_i e; simp [byLs]
theorem getD_set_self {α : Type} [Inhabited α] {l : List α} {k : Nat} {x : α} (h : k < l.length) : (l.set k x).getD k default = x := by rw [getD_eq (by simpa using h)]; simp
def byLQ (a : Au) (r : Value) (Z : Vw) : Prop := ∃ ws : List Value, Fz Z 1 r (ws.map cV) ∧ ws.length = a.L.toNat ∧ ∀ k, k < a.L.toNat → Fz Z 3 (ws.getD k default) ((byL a.ed k).map Ed.c)
set_option maxHeartbeats 4000000 in
theorem byLetter_ok (lo : Nat) {Z : Vw} {v : Value} {a : Au} (ha : AuV Z v a) (hA : isAutoP a) : CallP F lo 90 [v] Z fun r Z' => byLQ a r Z' := by
  have hS0 := hA.1
  have hS1 := hA.2.1
  have hL0 := hA.2.2.1
  have hL1 := hA.2.2.2.1
  have hedl := hA.2.2.2.2.1
  have hrst := hA.2.2.2.2.2.1
  have hren := hA.2.2.2.2.2.2.1
  have hstl := rising_len hrst hS0
  have henl := rising_len hren hS0
  have hedi := edsIn.of hA
  have hV := ha
  obtain ⟨vs, ve, vg, rfl, hs, he, hg, q1, q2, q3⟩ := ha
  refine FnP (fn := c90) rfl rfl rfl ?_
  (refine W_seq ?_; (refine W_rgn ?_; ((refine Ra rfl (xBox rfl (fun b1 => ?_))) <;> (refine Ra rfl (X_mv rfl ?_)) <;> (refine R_nil ?_))) <;> ((refine thenQ_nrm ?_; (refine W_seq ?_; (refine W_rgn ?_; ((refine Ra rfl (X_faddr rfl ?_)) <;> (refine Ra rfl (X_load (lB rfl rfl) ?_)) <;> (refine Ra rfl (xMk rfl rfl (by omega) (by omega) (by omega) rfl (fun v8 => ?_))) <;> (refine Ra rfl (X_mv rfl ?_)) <;> (refine R_nil ?_))) <;> ((refine thenQ_nrm ?_; (refine W_seq ?_; (refine W_seq ?_; (refine W_rgn ?_; ((refine Ra rfl (X_faddr rfl ?_)) <;> (refine Ra rfl (X_load (lB rfl rfl) ?_)) <;> (refine Ra rfl (xLen rfl ?_)) <;> (refine Ra rfl (X_mv rfl ?_)) <;> (refine R_nil ?_))) <;> ((refine thenQ_nrm ?_; (refine W_block ?_; ((
      refine wLoop (fun p : Nat × List Value => match p with | (i, ws) => [(12, .int .i64 (i : Nat))]) (fun p => match p with | (i, ws) => .arr v8 1 a.L.toNat (ws.map cV) :: .box b1 [.int .i64 a.S, .int .i64 a.L, vs, ve, vg] :: grosE 3 Ed.c ws (byLs a.L.toNat (a.ed.take i))) (fun p _ => match p with | (i, ws) => i ≤ a.ed.length ∧ ws.length = a.L.toNat) (fun p => match p with | (i, ws) => a.ed.length - i) (0, List.replicate a.L.toNat (.slice none 0 0)) (by repeat' (first | exact trivial | exact rfl | constructor))
        (uGE0 (e := 3) Ed.c (by decide) a.L.toNat (by simp only [List.cons_append, List.nil_append]; exact Upd.done ⟨⟨Nat.zero_le _, by simp⟩, hR (by simp [cV]) (hB rfl (hKeep (by rw [List.take_zero, byLs_zero])))⟩)) ?_
      rintro ⟨i, ws⟩ Z2 hz2 hp
      obtain ⟨hi, hwl⟩ : i ≤ a.ed.length ∧ ws.length = a.L.toNat := hp
      have hel := fun h : i < a.ed.length => hedi _ (getD_mem h)
      have hil := byLs_len a.L.toNat (a.ed.take i)) <;> (refine W_seq ?_; (refine W_rgn ?_; ((refine Ra rfl (X_lss rfl rfl (fun _ => ?_) (fun _ => ?_))) <;> (refine R_nil ?_))) <;> ((refine thenQ_nrm ?_; (refine W_seq ?_; (refine W_cond rfl (fun ht => ?_) (fun ht => ?_) <;> (first | exact absurd ht (by decide) | (refine W_skip ?_) | (refine W_exit ?_))) <;> (first | refine thenQ_ext ?_ | (refine thenQ_nrm ?_; (refine W_seq ?_; (refine W_block ?_; (refine W_seq ?_; (refine W_rgn ?_; ((refine Ra rfl (xIa rfl rfl (by omega) (by omega) ?_)) <;> (refine Ra rfl (X_load (lEA rfl (by omega)) ?_)) <;> (refine Ra rfl (X_alloc (fun b5 => ?_))) <;> (refine Rn (xSW rfl rfl rfl rfl ?_)) <;> (refine R_nil ?_))) <;> ((refine thenQ_nrm ?_; (refine W_drw ?_; ((refine Da rfl rfl (X_mv rfl ?_)) <;> (refine Da rfl rfl (X_faddr rfl ?_)) <;> (refine Da rfl rfl (X_load (lB rfl rfl) ?_)) <;> (refine Da rfl rfl (X_mv rfl ?_)) <;> (refine Da rfl rfl (X_faddr rfl ?_)) <;> (refine Da rfl rfl (X_load (lB rfl rfl) ?_)) <;> (refine Da rfl rfl (xIa rfl rfl (by omega) (by omega) ?_)) <;> (refine Da rfl rfl (X_load (lE0 rfl (by omega) rfl) ?_)) <;> (refine Da rfl rfl (X_load (lBA rfl rfl) ?_)) <;> (refine Da rfl rfl (X_bsliceC (pCons rfl Parts.nil) rfl rfl rfl (fun v25 => ?_))) <;> (refine D_consR rfl (S_do rfl (xApE (k := (a.ed.getD i default).l.toNat) (a.ed.getD i default) (by rw [hil]; exact hwl) (by omega) rfl rfl rfl (by have := byLs_small a.L.toNat (a.ed.take i) (a.ed.getD i default).l.toNat; rw [List.length_take] at this; omega) (fun v26 => ⟨(by (refine rDo rfl rfl (lB rfl rfl) ?_); exact Rck_nil), ?_⟩)))) <;> (refine Da rfl rfl (xIa rfl rfl (by omega) (by omega) ?_)) <;> (refine Dn rfl (xStE (k := (a.ed.getD i default).l.toNat) (fun _ => rfl) (by rw [List.length_set, List.length_set, hil]; exact hwl) (by rw [List.length_set]; omega) (getD_set_self (by omega)) rfl rfl (by rw [List.length_set]) ?_)) <;> (refine D_nil ?_)))))) <;> (refine blockQ_nrm ?_)) <;> ((refine thenQ_nrm ?_; (refine W_rgn ?_; ((refine Ra rfl (X_addI rfl rfl (by omega) (by omega) ?_)) <;> (refine Ra rfl (X_mv rfl ?_)) <;> (refine R_nil ?_)))))))))))) <;> (first | refine thenQ_ext ?_ | (refine thenQ_nrm ?_; (
        refine Upd.drop (AtA.out (v := v25)) (Upd.drop (AtB.out (b := b5)) (Upd.done ⟨(i + 1, _), ?_, ⟨?_, ?_⟩, (by repeat' (first | exact trivial | exact rfl | constructor)), hR rfl (hB rfl (hKeep (by rw [byLs_step (by omega) (by omega)])))⟩))
        · show a.ed.length - (i + 1) < a.ed.length - i
          omega
        · show i + 1 ≤ a.ed.length
          omega
        · rw [List.length_set]; exact hwl)))) <;> (refine blockQ_ext ?_))))) <;> ((refine thenQ_nrm ?_; (refine W_seq ?_; (refine W_rgn ?_; ((refine Ra rfl (X_mv rfl ?_)) <;> (refine Ra rfl (X_mv rfl ?_)) <;> (refine R_nil ?_))) <;> ((refine thenQ_nrm ?_; (refine W_ret ?_)))))))))))))
  <;> (refine fn_ret (Res.tmp rfl Res.nil) ?_)
  obtain rfl : i = a.ed.length := by omega
  refine uTE (fe := Ed.c) [.arr v8 1 a.L.toNat (ws.map cV), .box b1 [.int .i64 a.S, .int .i64 a.L, vs, ve, vg]] rfl (by rw [hil]; exact hwl) fun Z7 hz7 hall => uA v8 fun Z8 hz8 hf8 => Upd.nil ⟨rfl, ws, hf8, hwl, fun k hk => ?_⟩
  have h9 := hall k (by omega)
  rw [List.take_length, byLs_at hk] at h9
  exact h9.le ZC.le
end Go.Proofs.Ytbjgnogcjglcoaa.Hm.V
