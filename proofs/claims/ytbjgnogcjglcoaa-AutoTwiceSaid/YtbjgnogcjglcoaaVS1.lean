import Derived.Test.YtbjgnogcjglcoaaHF
import Derived.Test.YtbjgnogcjglcoaaA6
import Derived.Test.YtbjgnogcjglcoaaVA1
namespace Go.Proofs.Ytbjgnogcjglcoaa.Hm.V
open Go
set_option linter.all false
set_option maxRecDepth 100000
attribute [local irreducible] X S R D W Call Upd Rds Rck Sees Res Cel CallP fnQ
theorem foldl_take {α β : Type} [Inhabited α] {f : β → α → β} {b : β} {l : List α} {i : Nat} (h : i < l.length) : (l.take (i + 1)).foldl f b = f ((l.take i).foldl f b) (l.getD i default) := by
  rw [List.take_succ, getD_at h]
  simp
def setOf (l : List Int) : Nat := l.foldl (fun m n => m ||| 1 <<< n.toNat) 0
theorem setOf_take {l : List Int} {i : Nat} (h : i < l.length) : setOf (l.take (i + 1)) = setOf (l.take i) ||| 1 <<< (l.getD i default).toNat := foldl_take h
def inSt (l : List Int) : Prop := ∀ i, i < l.length → 0 ≤ l.getD i default ∧ l.getD i default < 256
theorem setOf_lt {l : List Int} (h : inSt l) : setOf l < 2 ^ 256 := by
  have : ∀ i, i ≤ l.length → setOf (l.take i) < 2 ^ 256 := by
    intro i
    induction i with
    | zero => intro _; simp [setOf]
    | succ i ih =>
      intro hi
      rw [setOf_take (by omega)]
      obtain ⟨h0, h1⟩ := h i (by omega)
      exact put_lt (ih (by omega)) (by omega)
  have := this l.length (Nat.le_refl _)
  rwa [List.take_length] at this
def stepTo (g : List Ed) (m : Nat) (c : Int) : Nat := g.foldl (fun s x => if x.l = c ∧ m.testBit x.f.toNat = true then s ||| 1 <<< x.t.toNat else s) 0
theorem stepTo_take {g : List Ed} {m : Nat} {c : Int} {i : Nat} (h : i < g.length) : stepTo (g.take (i + 1)) m c = if (g.getD i default).l = c ∧ m.testBit (g.getD i default).f.toNat = true then stepTo (g.take i) m c ||| 1 <<< (g.getD i default).t.toNat else stepTo (g.take i) m c := foldl_take h
def inEd (g : List Ed) : Prop := ∀ i, i < g.length → 0 ≤ (g.getD i default).f ∧ (g.getD i default).f < 256 ∧ 0 ≤ (g.getD i default).t ∧ (g.getD i default).t < 256
theorem stepTo_lt {g : List Ed} {m : Nat} {c : Int} (h : inEd g) : stepTo g m c < 2 ^ 256 := by
  have : ∀ i, i ≤ g.length → stepTo (g.take i) m c < 2 ^ 256 := by
    intro i
    induction i with
    | zero => intro _; simp [stepTo]
    | succ i ih =>
      intro hi
      rw [stepTo_take (by omega)]
      obtain ⟨h0, h1, h2, h3⟩ := h i (by omega)
      split
      · exact put_lt (ih (by omega)) (by omega)
      · exact ih (by omega)
  have := this g.length (Nat.le_refl _)
  rwa [List.take_length] at this
abbrev vS (m : Nat) : Value := .agg ⟨cS m⟩
set_option maxHeartbeats 4000000 in
theorem has_ok (lo : Nat) {Z : Vw} {m : Nat} {n : Int} (h0 : 0 ≤ n) (h1 : n < 256) : CallP F lo 60 [vS m, .int .i64 n] Z fun r _ => ∃ b, r = .bool b ∧ b = m.testBit n.toNat := by
  obtain ⟨n, rfl⟩ : ∃ n0 : Nat, n = (n0 : Int) := ⟨n.toNat, by omega⟩
  refine FnP (fn := c60) rfl rfl rfl ?_
  (refine W_seq ?_; (refine W_rgn ?_; ((refine Ra rfl (xBox rfl (fun b2 => ?_))) <;> (refine Ra rfl (X_mv rfl ?_)) <;> (refine R_nil ?_))) <;> ((refine thenQ_nrm ?_; (refine W_seq ?_; (refine W_rgn ?_; ((refine Ra rfl (X_mv rfl ?_)) <;> (refine Ra rfl (X_quoI rfl rfl (by omega) (by omega) (by omega) ?_)) <;> (refine Ra rfl (xIaa rfl rfl (by omega) (by omega) ?_)) <;> (refine Ra rfl (X_load (lB rfl (cS_at0 (by omega))) ?_)) <;> (refine Ra rfl (X_mv rfl ?_)) <;> (refine Ra rfl (X_remI rfl rfl (by omega) (by omega) ?_)) <;> (refine Ra rfl (X_shrU rfl rfl (by omega) (by omega) ?_)) <;> (refine Ra rfl (X_andU rfl rfl ?_)) <;> (refine Ra rfl (X_eql rfl rfl (fun _ => ?_) (fun _ => ?_))) <;> (refine Ra rfl (X_mv rfl ?_)) <;> (refine R_nil ?_))) <;> ((refine thenQ_nrm ?_; (refine W_ret ?_)))))))
  <;> (refine fnP_ret (Res.tmp rfl Res.nil) ?_)
  all_goals
    refine ⟨_, rfl, ?_⟩
    rw [Int.toNat_natCast]
    rename_i hh
    first
      | exact (has_bit.1 (by exact_mod_cast hh)).symm
      | exact (Bool.eq_false_iff.2 fun hc => hh (by exact_mod_cast has_bit.2 hc)).symm
set_option maxHeartbeats 4000000 in
theorem Has_ok (lo : Nat) {Z : Vw} {m : Nat} {n : Int} (h0 : 0 ≤ n) (h1 : n < 256) : CallP F lo 75 [vS m, .int .i64 n] Z fun r _ => ∃ b, r = .bool b ∧ b = m.testBit n.toNat := by
  obtain ⟨n, rfl⟩ : ∃ n0 : Nat, n = (n0 : Int) := ⟨n.toNat, by omega⟩
  refine FnP (fn := c75) rfl rfl rfl ?_
  (refine W_seq ?_; (refine W_rgn ?_; ((refine Ra rfl (xBox rfl (fun b2 => ?_))) <;> (refine Ra rfl (X_mv rfl ?_)) <;> (refine R_nil ?_))) <;> ((refine thenQ_nrm ?_; (refine W_seq ?_; (refine W_rgn ?_; ((refine Ra rfl (X_mv rfl ?_)) <;> (refine Ra rfl (X_quoI rfl rfl (by omega) (by omega) (by omega) ?_)) <;> (refine Ra rfl (xIaa rfl rfl (by omega) (by omega) ?_)) <;> (refine Ra rfl (X_load (lB rfl (cS_at0 (by omega))) ?_)) <;> (refine Ra rfl (X_mv rfl ?_)) <;> (refine Ra rfl (X_remI rfl rfl (by omega) (by omega) ?_)) <;> (refine Ra rfl (X_convU rfl (by omega) (by omega) ?_)) <;> (refine Ra rfl (X_shrU rfl rfl (by omega) (by omega) ?_)) <;> (refine Ra rfl (X_andU rfl rfl ?_)) <;> (refine Ra rfl (X_eql rfl rfl (fun _ => ?_) (fun _ => ?_))) <;> (refine Ra rfl (X_mv rfl ?_)) <;> (refine R_nil ?_))) <;> ((refine thenQ_nrm ?_; (refine W_ret ?_)))))))
  <;> (refine fnP_ret (Res.tmp rfl Res.nil) ?_)
  all_goals
    refine ⟨_, rfl, ?_⟩
    rw [Int.toNat_natCast]
    rename_i hh
    first
      | exact (has_bit.1 (by exact_mod_cast hh)).symm
      | exact (Bool.eq_false_iff.2 fun hc => hh (by exact_mod_cast has_bit.2 hc)).symm
set_option maxHeartbeats 4000000 in
theorem put_ok (lo : Nat) {Z : Vw} {m b : Nat} {n : Int} (h0 : 0 ≤ n) (h1 : n < 256) : Call1 F lo 61 [.pointer (some ⟨b, 0, none⟩), .int .i64 n] Z (.box b (cS m)) fun _ _ o' => o' = .box b (cS (m ||| 1 <<< n.toNat)) := by
  obtain ⟨n, rfl⟩ : ∃ n0 : Nat, n = (n0 : Int) := ⟨n.toNat, by omega⟩
  refine Fn1 (fn := c61) rfl rfl rfl ?_
  (refine W_drw ?_; ((refine Da rfl rfl (X_mv rfl ?_)) <;> (refine Da rfl rfl (X_mv rfl ?_)) <;> (refine Da rfl rfl (X_quoI rfl rfl (by omega) (by omega) (by omega) ?_)) <;> (refine Da rfl rfl (X_nilchk rfl ?_)) <;> (refine Da rfl rfl (xIaa rfl rfl (by omega) (by omega) ?_)) <;> (refine Da rfl rfl (X_load (lB rfl (cS_at0 (by omega))) ?_)) <;> (refine Da rfl rfl (X_mv rfl ?_)) <;> (refine Da rfl rfl (X_remI rfl rfl (by omega) (by omega) ?_)) <;> (refine Da rfl rfl (X_shlU rfl rfl (by omega) (by omega) ?_)) <;> (refine Da rfl rfl (X_orU rfl rfl ?_)) <;> (refine Da rfl rfl (X_nilchk rfl ?_)) <;> (refine Da rfl rfl (xIaa rfl rfl (by omega) (by omega) ?_)) <;> (refine Dn rfl (xSset rfl rfl (by omega) ?_)) <;> (refine D_nil ?_)))
  <;> (refine fn1_nrm Res.nil (hB (b := b) rfl Has.nil) ?_)
  rw [Int.toNat_natCast]
set_option maxHeartbeats 4000000 in
theorem putA_ok (lo : Nat) {Z : Vw} {c k0 : Nat} {v : Value} {l : List Nat} {n : Int} (hk : k0 < l.length) (h0 : 0 ≤ n) (h1 : n < 256) : Call1 F lo 61 [.pointer (some ⟨bb v, oo v + k0 * 4, none⟩), .int .i64 n] Z (.arr v 4 c (l.map cS)) fun _ _ o' => o' = .arr v 4 c ((l.set k0 (l.getD k0 default ||| 1 <<< n.toNat)).map cS) := by
  obtain ⟨n, rfl⟩ : ∃ n0 : Nat, n = (n0 : Int) := ⟨n.toNat, by omega⟩
  refine Fn1 (fn := c61) rfl rfl rfl ?_
  (refine W_drw ?_; ((refine Da rfl rfl (X_mv rfl ?_)) <;> (refine Da rfl rfl (X_mv rfl ?_)) <;> (refine Da rfl rfl (X_quoI rfl rfl (by omega) (by omega) (by omega) ?_)) <;> (refine Da rfl rfl (X_nilchk rfl ?_)) <;> (refine Da rfl rfl (xIaa rfl rfl (by omega) (by omega) ?_)) <;> (refine Da rfl rfl (X_load (lE rfl (by omega) (cS_at1 (by omega))) ?_)) <;> (refine Da rfl rfl (X_mv rfl ?_)) <;> (refine Da rfl rfl (X_remI rfl rfl (by omega) (by omega) ?_)) <;> (refine Da rfl rfl (X_shlU rfl rfl (by omega) (by omega) ?_)) <;> (refine Da rfl rfl (X_orU rfl rfl ?_)) <;> (refine Da rfl rfl (X_nilchk rfl ?_)) <;> (refine Da rfl rfl (xIaa rfl rfl (by omega) (by omega) ?_)) <;> (refine Dn rfl (xSsetA rfl rfl (by omega) (by omega) ?_)) <;> (refine D_nil ?_)))
  <;> (refine fn1_nrm Res.nil (hR (v := v) rfl Has.nil) ?_)
  rw [Int.toNat_natCast]
set_option maxHeartbeats 4000000 in
theorem With_ok (lo : Nat) {Z : Vw} {m : Nat} {n : Int} (h0 : 0 ≤ n) (h1 : n < 256) : CallP F lo 99 [vS m, .int .i64 n] Z fun r _ => r = vS (m ||| 1 <<< n.toNat) := by
  obtain ⟨n, rfl⟩ : ∃ n0 : Nat, n = (n0 : Int) := ⟨n.toNat, by omega⟩
  refine FnP (fn := c99) rfl rfl rfl ?_
  (refine W_seq ?_; (refine W_rgn ?_; ((refine Ra rfl (xBox rfl (fun b2 => ?_))) <;> (refine Ra rfl (X_alloc (fun b4 => ?_))) <;> (refine R_nil ?_))) <;> ((refine thenQ_nrm ?_; (refine W_seq ?_; (refine W_rgn ?_; ((refine Ra rfl (X_mv rfl ?_)) <;> (refine Ra rfl (X_quoI rfl rfl (by omega) (by omega) (by omega) ?_)) <;> (refine Ra rfl (X_mv rfl ?_)) <;> (refine Ra rfl (X_quoI rfl rfl (by omega) (by omega) (by omega) ?_)) <;> (refine Ra rfl (xIaa rfl rfl (by omega) (by omega) ?_)) <;> (refine Ra rfl (X_load (lB rfl (cS_at0 (by omega))) ?_)) <;> (refine Ra rfl (X_mv rfl ?_)) <;> (refine Ra rfl (X_remI rfl rfl (by omega) (by omega) ?_)) <;> (refine Ra rfl (X_convU rfl (by omega) (by omega) ?_)) <;> (refine Ra rfl (X_shlU rfl rfl (by omega) (by omega) ?_)) <;> (refine Ra rfl (X_orU rfl rfl ?_)) <;> (refine Ra rfl (xIaa rfl rfl (by omega) (by omega) ?_)) <;> (refine Rn (xSset rfl rfl (by omega) ?_)) <;> (refine R_nil ?_))) <;> ((refine thenQ_nrm ?_; (refine W_seq ?_; (refine W_rgn ?_; ((refine Ra rfl (X_load (lBA rfl rfl) ?_)) <;> (refine Rn (xSW rfl rfl rfl rfl ?_)) <;> (refine R_nil ?_))) <;> ((refine thenQ_nrm ?_; (refine W_ret ?_))))))))))
  <;> (refine fnP_ret (rA rfl rfl Res.nil) ?_)
  rw [Int.toNat_natCast]; rfl
end Go.Proofs.Ytbjgnogcjglcoaa.Hm.V
