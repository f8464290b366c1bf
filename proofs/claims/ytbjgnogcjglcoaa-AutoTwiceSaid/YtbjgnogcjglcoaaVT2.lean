import Derived.Test.YtbjgnogcjglcoaaHF
import Derived.Test.YtbjgnogcjglcoaaA6
import Derived.Test.YtbjgnogcjglcoaaVT1
import Derived.Test.YtbjgnogcjglcoaaSV
namespace Go.Proofs.Ytbjgnogcjglcoaa.Hm.V
open Go
set_option linter.all false
set_option maxRecDepth 100000
attribute [local irreducible] X S R D W Call Upd Rds Rck Sees Res Cel CallP fnQ
theorem cpt_succ {α : Type} [DecidableEq α] [Inhabited α] (l : List α) (i : Nat) : cpt l (i + 1) = if 0 < i ∧ l.getD i default = l.getD (i - 1) default then cpt l i else cpt l i ++ [l.getD i default] := rfl
theorem take_succ_at {α : Type} [Inhabited α] {l : List α} {i : Nat} (h : i < l.length) : l.take (i + 1) = l.take i ++ [l.getD i default] := by
  rw [List.take_succ, getD_at h]; rfl
theorem cpt_all {α : Type} [DecidableEq α] [Inhabited α] {l : List α} : ∀ {i : Nat}, i ≤ l.length → (∀ j, 0 < j → j < i → l.getD j default ≠ l.getD (j - 1) default) → cpt l i = l.take i
  | 0, _, _ => by simp [cpt]
  | i + 1, hi, h => by
    rw [cpt_succ, if_neg (fun hh => h i hh.1 (by omega) hh.2), cpt_all (by omega) fun j h0 h1 => h j h0 (by omega), take_succ_at (by omega)]
theorem set_getD {α : Type} [Inhabited α] {l : List α} {k j : Nat} {x : α} (h : j ≠ k) : (l.set k x).getD j default = l.getD j default := by
  simp only [List.getD_eq_getElem?_getD, List.getElem?_set_ne (Ne.symm h)]
theorem take_set_succ {α : Type} {l : List α} {k : Nat} {x : α} (h : k < l.length) : (l.set k x).take (k + 1) = l.take k ++ [x] := by
  rw [List.take_succ, List.take_set_of_le (Nat.le_refl k), List.getElem?_set_self h]; rfl
set_option maxHeartbeats 4000000 in
theorem CompactE_ok (lo : Nat) {Z : Vw} {v : Value} {l : List FT} (hlen : l.length < 4611686018427387904) : Call F lo 112 [v] Z [.gro v 3 (l.map encT)] fun r Z' O' => O' = [] ∧ Fz Z' 3 r ((cpt l l.length).map encT) := by
  have hml0 : (l.map encT).length = l.length := List.length_map _
  refine Fn (fn := c112) rfl rfl rfl ?_
  (refine W_seq ?_; (refine W_rgn ?_; ((refine Ra rfl (X_mv rfl ?_)) <;> (refine R_nil ?_))) <;> ((refine thenQ_nrm ?_; (refine W_seq ?_; (refine W_seq ?_; (refine W_rgn ?_; ((refine Ra rfl (X_mv rfl ?_)) <;> (refine Ra rfl (xLen rfl ?_)) <;> (refine Ra rfl (X_lss rfl rfl (fun _ => ?_) (fun _ => ?_))) <;> (refine R_nil ?_))) <;> ((refine thenQ_nrm ?_; (refine W_cond rfl (fun ht => ?_) (fun ht => ?_) <;> (first | exact absurd ht (by decide) | (refine W_seq ?_; (refine W_rgn ?_; ((refine Ra rfl (X_mv rfl ?_)) <;> (refine Ra rfl (X_mv rfl ?_)) <;> (refine R_nil ?_))) <;> ((refine thenQ_nrm ?_; (refine W_ret ?_)))) | (refine W_skip ?_)))))) <;> (first | refine thenQ_ret ?_ | (refine thenQ_nrm ?_; (refine W_seq ?_; (refine W_seq ?_; (refine W_rgn ?_; ((refine Ra rfl (X_mv rfl ?_)) <;> (refine R_nil ?_))) <;> ((refine thenQ_nrm ?_; (refine W_block ?_; ((
      refine wLoop (fun k : Nat => [(3, .int .i64 (k : Nat))]) (fun _ => [.gro v 3 (l.map encT)]) (fun k _ => 1 ≤ k ∧ k ≤ l.length ∧ ∀ j, 0 < j → j < k → l.getD j default ≠ l.getD (j - 1) default) (fun k => l.length - k) 1 (by repeat' (first | exact trivial | exact rfl | constructor))
        (Upd.done ⟨⟨Nat.le_refl _, by omega, fun j h0 h1 => absurd h1 (by omega)⟩, hG rfl Has.nil⟩) ?_
      intro k Z1 hz1 hp
      obtain ⟨hk1, hk2, hne⟩ := hp) <;> (refine W_seq ?_; (refine W_seq ?_; (refine W_rgn ?_; ((refine Ra rfl (X_mv rfl ?_)) <;> (refine Ra rfl (X_mv rfl ?_)) <;> (refine Ra rfl (xLen rfl ?_)) <;> (refine Ra rfl (X_lss rfl rfl (fun _ => ?_) (fun _ => ?_))) <;> (refine R_nil ?_))) <;> ((refine thenQ_nrm ?_; (refine W_cond rfl (fun ht => ?_) (fun ht => ?_) <;> (first | exact absurd ht (by decide) | (refine W_skip ?_) | (refine W_exit ?_)))))) <;> (first | refine thenQ_ext ?_ | (refine thenQ_nrm ?_; (refine W_seq ?_; (refine W_block ?_; (refine W_seq ?_; (refine W_drw ?_; ((refine Da rfl rfl (X_mv rfl ?_)) <;> (refine Da rfl rfl (X_mv rfl ?_)) <;> (refine Da rfl rfl (xIa rfl rfl (by omega) (by omega) ?_)) <;> (refine Da rfl rfl (X_load (lEA rfl (by omega)) ?_)) <;> (refine Da rfl rfl (X_mv rfl ?_)) <;> (refine Da rfl rfl (X_mv rfl ?_)) <;> (refine Da rfl rfl (X_subI rfl rfl (by omega) (by omega) ?_)) <;> (refine Da rfl rfl (xIa rfl rfl (by omega) (by omega) ?_)) <;> (refine Da rfl rfl (X_load (lEA rfl (by omega)) ?_)) <;> (refine Da rfl rfl (X_eqP rfl rfl (eqv_FT _ _) (fun hc25 => ?_) (fun hc25 => ?_))) <;> (refine D_nil ?_))) <;> ((refine thenQ_nrm ?_; (refine W_cond rfl (fun ht => ?_) (fun ht => ?_) <;> (
 first | exact absurd ht (by decide) | (refine W_seq ?_; (refine W_rgn ?_; ((refine Ra rfl (X_mv rfl ?_)) <;> (refine Ra rfl (X_mv rfl ?_)) <;> (refine Ra rfl (X_tailG (e := 3) (k := k) rfl rfl (by omega) (by omega) ?_)) <;> (refine Ra rfl (X_mv rfl ?_)) <;> (refine R_nil ?_))) <;> ((refine thenQ_nrm ?_; (refine W_seq ?_; (refine W_seq ?_; (refine W_rgn ?_; ((refine Ra rfl (X_mv rfl ?_)) <;> (refine R_nil ?_))) <;> ((refine thenQ_nrm ?_; (refine W_block ?_; ((
        obtain ⟨k0, rfl⟩ : ∃ k0, k0 = k := ⟨_, rfl⟩
        have ha0 : cpt l k0 = l.take k0 := cpt_all hk2 hne
        have hlen0 : (cpt l k0).length = k0 := by rw [ha0, List.length_take]; omega
        have ha1 : cpt l (k0 + 1) = cpt l k0 := by rw [cpt_succ, if_pos ⟨by omega, hc25⟩]
        refine wLoop (fun p : Nat × List FT => match p with | (i, ys) => [(5, .int .i64 (i : Nat)), (3, .int .i64 (((cpt l (k0 + i)).length : Nat) : Int))]) (fun p => match p with | (i, ys) => [.gro v 3 (ys.map encT)]) (fun p _ => match p with | (i, ys) => 1 ≤ i ∧ k0 + i ≤ l.length ∧ ys.length = l.length ∧ ys.take (cpt l (k0 + i)).length = cpt l (k0 + i) ∧ (cpt l (k0 + i)).length + 1 ≤ k0 + i ∧ ∀ j, k0 + i - 1 ≤ j → ys.getD j default = l.getD j default) (fun p => match p with | (i, ys) => l.length - i) (1, l) (by show SubT [(5, .int .i64 ((1 : Nat) : Int)), (3, .int .i64 (((cpt l (k0 + 1)).length : Nat) : Int))] _; rw [ha1, hlen0]; exact (by repeat' (first | exact trivial | exact rfl | constructor)))
          (Upd.done ⟨⟨Nat.le_refl _, by omega, rfl, by rw [ha1, hlen0, ha0], by rw [ha1, hlen0]; omega, fun j _ => rfl⟩, hG rfl Has.nil⟩) ?_
        rintro ⟨i, ys⟩ Z2 hz2 hp
        obtain ⟨hi1, hi2, hyl, hyt, hyk, hyr⟩ : 1 ≤ i ∧ k0 + i ≤ l.length ∧ ys.length = l.length ∧ ys.take (cpt l (k0 + i)).length = cpt l (k0 + i) ∧ (cpt l (k0 + i)).length + 1 ≤ k0 + i ∧ ∀ j, k0 + i - 1 ≤ j → ys.getD j default = l.getD j default := hp
        have hst := cpt_succ l (k0 + i)
        have hml : (ys.map encT).length = l.length := by rw [List.length_map]; exact hyl) <;> (refine W_seq ?_; (refine W_seq ?_; (refine W_rgn ?_; ((refine Ra rfl (X_mv rfl ?_)) <;> (refine Ra rfl (X_mv rfl ?_)) <;> (refine Ra rfl (X_lenTail (k := k0) rfl (by omega) ?_)) <;> (refine Ra rfl (X_lss rfl rfl (fun _ => ?_) (fun _ => ?_))) <;> (refine R_nil ?_))) <;> ((refine thenQ_nrm ?_; (refine W_cond rfl (fun ht => ?_) (fun ht => ?_) <;> (first | exact absurd ht (by decide) | (refine W_skip ?_) | (refine W_exit ?_)))))) <;> (first | refine thenQ_ext ?_ | (refine thenQ_nrm ?_; (refine W_seq ?_; (refine W_block ?_; (refine W_seq ?_; (refine W_drw ?_; ((refine Da rfl rfl (X_mv rfl ?_)) <;> (refine Da rfl rfl (X_mv rfl ?_)) <;> (refine Da rfl rfl (X_iaTail (k := k0) rfl rfl (by omega) (by omega) ?_)) <;> (refine Da rfl rfl (X_load (lEA rfl (by omega)) ?_)) <;> (refine Da rfl rfl (X_mv rfl ?_)) <;> (refine Da rfl rfl (X_mv rfl ?_)) <;> (refine Da rfl rfl (X_subI rfl rfl (by omega) (by omega) ?_)) <;> (refine Da rfl rfl (X_iaTail (k := k0) rfl rfl (by omega) (by omega) ?_)) <;> (refine Da rfl rfl (X_load (lEA rfl (by omega)) ?_)) <;> (refine Da rfl rfl (X_eqP rfl rfl (eqv_FT _ _) (fun hc44 => ?_) (fun hc44 => ?_))) <;> (refine D_nil ?_))) <;> ((refine thenQ_nrm ?_; (refine W_cond rfl (fun ht => ?_) (fun ht => ?_) <;> (first | exact absurd ht (by decide) | (refine W_seq ?_; (refine W_rgn ?_; ((refine Ra rfl (X_mv rfl ?_)) <;> (refine Ra rfl (X_mv rfl ?_)) <;> (refine Ra rfl (X_mv rfl ?_)) <;> (refine Ra rfl (X_mv rfl ?_)) <;> (refine Ra rfl (X_iaTail (k := k0) rfl rfl (by omega) (by omega) ?_)) <;> (refine Ra rfl (X_load (lEA rfl (by omega)) ?_)) <;> (refine Ra rfl (xIa rfl rfl (by omega) (by omega) ?_)) <;> (refine Rn (xSG rfl rfl rfl (by omega) rfl ?_)) <;> (refine R_nil ?_))) <;> ((refine thenQ_nrm ?_; (refine W_rgn ?_; ((refine Ra rfl (X_mv rfl ?_)) <;> (refine Ra rfl (X_addI rfl rfl (by omega) (by omega) ?_)) <;> (refine Ra rfl (X_mv rfl ?_)) <;> (refine R_nil ?_)))))) | (refine W_skip ?_)))))) <;> (refine blockQ_nrm ?_)) <;> ((refine thenQ_nrm ?_; (refine W_rgn ?_; ((refine Ra rfl (X_mv rfl ?_)) <;> (refine Ra rfl (X_addI rfl rfl (by omega) (by omega) ?_)) <;> (refine Ra rfl (X_mv rfl ?_)) <;> (refine R_nil ?_))))))))) <;> (first | refine thenQ_ext ?_ | (refine thenQ_nrm ?_; (
          have e1 := hyr (k0 + i) (by omega)
          have e2 := hyr (k0 + i - 1) (by omega)
          have e3 : k0 + (i - 1) = k0 + i - 1 := by omega
          first
            | (rw [e3, e1, e2] at hc44
               rw [if_neg (fun hh => hc44 hh.2)] at hst
               have hl2 : (cpt l (k0 + (i + 1))).length = (cpt l (k0 + i)).length + 1 := by rw [← Nat.add_assoc, hst, List.length_append]; rfl
               refine Upd.done ⟨(i + 1, ys.set (cpt l (k0 + i)).length (ys.getD (k0 + i) default)), ?_, ⟨?_, ?_, ?_, ?_, ?_, ?_⟩, ?_, (hG ?_ Has.nil)⟩
               · show l.length - (i + 1) < l.length - i
                 omega
               · show 1 ≤ i + 1
                 omega
               · show k0 + (i + 1) ≤ l.length
                 omega
               · show (ys.set (cpt l (k0 + i)).length _).length = l.length
                 rw [List.length_set]; exact hyl
               · show (ys.set (cpt l (k0 + i)).length _).take (cpt l (k0 + (i + 1))).length = cpt l (k0 + (i + 1))
                 rw [hl2, take_set_succ (by omega), hyt, ← Nat.add_assoc, hst, e1]
               · show (cpt l (k0 + (i + 1))).length + 1 ≤ k0 + (i + 1)
                 omega
               · intro j hj
                 show (ys.set (cpt l (k0 + i)).length _).getD j default = l.getD j default
                 have hj : k0 + (i + 1) - 1 ≤ j := hj
                 rw [set_getD (by omega)]
                 exact hyr j (by omega)
               · show SubT [(5, .int .i64 ((i + 1 : Nat) : Int)), (3, .int .i64 (((cpt l (k0 + (i + 1))).length : Nat) : Int))] _
                 rw [hl2]; exact (by repeat' (first | exact trivial | exact rfl | constructor))
               · rw [List.map_set])
            | (rw [e3, e1, e2] at hc44
               rw [if_pos ⟨by omega, hc44⟩] at hst
               have hl2 : (cpt l (k0 + (i + 1))).length = (cpt l (k0 + i)).length := by rw [← Nat.add_assoc, hst]
               refine Upd.done ⟨(i + 1, ys), ?_, ⟨?_, ?_, hyl, ?_, ?_, ?_⟩, ?_, (hG rfl Has.nil)⟩
               · show l.length - (i + 1) < l.length - i
                 omega
               · show 1 ≤ i + 1
                 omega
               · show k0 + (i + 1) ≤ l.length
                 omega
               · show ys.take (cpt l (k0 + (i + 1))).length = cpt l (k0 + (i + 1))
                 rw [hl2, hyt, ← Nat.add_assoc, hst]
               · show (cpt l (k0 + (i + 1))).length + 1 ≤ k0 + (i + 1)
                 omega
               · intro j hj
                 have hj : k0 + (i + 1) - 1 ≤ j := hj
                 exact hyr j (by omega)
               · show SubT [(5, .int .i64 ((i + 1 : Nat) : Int)), (3, .int .i64 (((cpt l (k0 + (i + 1))).length : Nat) : Int))] _
                 rw [hl2]; exact (by repeat' (first | exact trivial | exact rfl | constructor))))))) <;> (refine blockQ_ext ?_))))) <;> ((refine thenQ_nrm ?_; (refine W_seq ?_; (refine W_rgn ?_; ((refine Ra rfl (X_mv rfl ?_)) <;> (refine Ra rfl (X_mv rfl ?_)) <;> (refine Ra rfl (X_tailG (e := 3) rfl rfl (by omega) (by omega) ?_)) <;> (refine Rn (X_clrG (k := (cpt l (k0 + i)).length) rfl (by omega) rfl ?_)) <;> (refine R_nil ?_))) <;> ((refine thenQ_nrm ?_; (refine W_seq ?_; (refine W_rgn ?_; ((refine Ra rfl (X_mv rfl ?_)) <;> (refine Ra rfl (X_mv rfl ?_)) <;> (refine Ra rfl (X_upd ?_); (refine uG v fun Za hza hfa => Upd.done ?_; have hfa : Fz Za 3 v ((ys.take (cpt l (k0 + i)).length ++ List.replicate ((ys.map encT).length - (cpt l (k0 + i)).length) default).map encT) := (by rw [List.map_append, List.map_take, List.map_replicate]; exact hfa); have hl5 : (ys.take (cpt l (k0 + i)).length ++ List.replicate ((ys.map encT).length - (cpt l (k0 + i)).length) default).length = l.length := (by rw [List.length_append, List.length_take, List.length_replicate]; omega); refine xSlT rfl rfl (by omega) (by omega) (fun v59 hf59 => ?_))) <;> (refine Ra rfl (X_mv rfl ?_)) <;> (refine R_nil ?_))) <;> ((refine thenQ_nrm ?_; (refine W_ret ?_))))))))))))) | (refine W_skip ?_)))))) <;> (first | refine blockQ_nrm ?_ | refine blockQ_ret ?_)) <;> (first | refine thenQ_ret ?_ | (refine thenQ_nrm ?_; (refine W_rgn ?_; ((refine Ra rfl (X_mv rfl ?_)) <;> (refine Ra rfl (X_addI rfl rfl (by omega) (by omega) ?_)) <;> (refine Ra rfl (X_mv rfl ?_)) <;> (refine R_nil ?_))))))))) <;> (first | refine thenQ_ret ?_ | refine thenQ_ext ?_ | (refine thenQ_nrm ?_; (
        refine Upd.done ⟨k + 1, by omega, ⟨by omega, by omega, fun j h0 h1 => ?_⟩, (by repeat' (first | exact trivial | exact rfl | constructor)), hG rfl Has.nil⟩
        rcases Nat.lt_or_ge j k with h9 | h9
        · exact hne j h0 h9
        · obtain rfl : j = k := by omega
          exact hc25)))) <;> (first | refine blockQ_ret ?_ | refine blockQ_ext ?_))))) <;> (first | refine thenQ_ret ?_ | (refine thenQ_nrm ?_; (refine W_seq ?_; (refine W_rgn ?_; ((refine Ra rfl (X_mv rfl ?_)) <;> (refine Ra rfl (X_mv rfl ?_)) <;> (refine R_nil ?_))) <;> ((refine thenQ_nrm ?_; (refine W_ret ?_)))))))))))))
  <;> (refine fn_ret (Res.tmp rfl Res.nil) ?_)
  · refine uG v fun Z9 hz9 hf => Upd.nil ⟨rfl, ?_⟩
    rw [cpt_all (Nat.le_refl _) (fun j h0 h1 => absurd h1 (by omega)), List.take_length]; exact hf
  · obtain hi9 : k0 + i = l.length := by omega
    refine Upd.nil ⟨rfl, ?_⟩
    rw [List.take_left' (by rw [List.length_take]; omega), hyt, hi9] at hf59
    exact hf59
  · obtain rfl : k = l.length := by omega
    refine uG v fun Z9 hz9 hf => Upd.nil ⟨rfl, ?_⟩
    rw [cpt_all (Nat.le_refl _) hne, List.take_length]; exact hf
end Go.Proofs.Ytbjgnogcjglcoaa.Hm.V
