/- The program's String; copies. -/
import Derived.Test.YtlidnionbofkaaaHF
import Derived.Test.YtlidnionbofkaaaA6
import Derived.Test.YtlidnionbofkaaaVE18
namespace Go.Proofs.Ytlidnionbofkaaa.Hm.V
open Go
set_option linter.all false
set_option maxRecDepth 100000
attribute [local irreducible] X S R D W Call Upd Rds Rck Sees Res Cel CallP fnQ
section
variable {F : Nat → Option HFn} {lo N : Nat} {A : Tab} {Z : Vw} {O : List Pt} {K : Value → Vw → List Pt → Prop}
theorem encode_len (n : Int) : (Utf8.encode n).size ≤ 4 := by
  unfold Utf8.encode
  dsimp only
  generalize (if Utf8.valid n = true then n.toNat else Utf8.runeError) = c
  split
  · exact (by decide : 1 ≤ 4)
  split
  · exact (by decide : 2 ≤ 4)
  split
  · exact (by decide : 3 ≤ 4)
  · exact (by decide : 4 ≤ 4)
unseal Rds in
theorem X_runeS {x : Operand} {k : IntKind} {n : Int} (hx : evA A x = some (.int k n)) (kk : ∀ s : ByteArray, s.size ≤ 4 → K (.string s) Z O) : X F lo (.runeS x) N A Z O K := X_rds (v := .string (Utf8.encode n)) (by simp) (fun R σ h hs m => by simp only [xop, xopE, evA_ok hs hx]) (kk (Utf8.encode n) (encode_len n))
theorem bin_addS (a b : ByteArray) (h : a.size + b.size < 4611686018427387904) : bin .add (.string a) (.string b) = some (.string (a ++ b)) := by
  show pureRun (Op.stringOp .add a b) = _
  unfold Op.stringOp
  have h2 : ¬ (((a.size + b.size : Nat) : Int) > IntKind.i64.max) := by
    have : IntKind.i64.max = 9223372036854775807 := by decide
    omega
  dsimp only
  rw [if_neg h2]
  rfl
theorem X_addS {x y : Operand} {a b : ByteArray} (hx : evA A x = some (.string a)) (hy : evA A y = some (.string b)) (h : a.size + b.size < 4611686018427387904) (kk : ∀ s : ByteArray, s.size = a.size + b.size → K (.string s) Z O) : X F lo (.bin .add x y) N A Z O K := X_bin hx hy (bin_addS a b h) (kk _ (ByteArray.size_append ..))
end
class SLo (l : List Value) : Prop where
  out : sameL l l = true
instance SLo.sl {Z : Vw} {O : List Pt} {l : List Value} [k : SLo l] : SL Z O l := ⟨fun _ _ _ _ => k.out⟩
theorem Tr.same {Z : Vw} {t : Et} (h : Tr Z t) : SLo t.cs := by
  obtain ⟨op, n, c, v, ks⟩ := t
  refine ⟨?_⟩
  obtain ⟨k2, _⟩ | ⟨b, o, s, cc, cs, k2, _⟩ := (Tr_mk.1 h).1.1.out
  · subst k2; simp [Et.cs, sameL, same0]
  · subst k2; simp [Et.cs, sameL, same0]
theorem kids_same {Z : Vw} {ks : List Et} (h : ∀ a ∈ ks, Tr Z a) (j : Nat) : SLo (ks.getD j default).cs := by
  by_cases hj : j < ks.length
  · exact (h _ (getD_in hj)).same
  · have : ks.getD j default = Et.z := by rw [List.getD_eq_getElem?_getD, List.getElem?_eq_none (by omega)]; rfl
    rw [this]
    exact (Tr.z Z).same
theorem list_same {α : Type} [Inhabited α] {l l' : List α} (hl : l.length = l'.length) (h : ∀ j, j < l.length → l.getD j default = l'.getD j default) : l = l' := by
  apply List.ext_getElem hl
  intro j h1 h2
  have := h j h1
  rwa [getD_eq h1, getD_eq h2] at this
set_option maxHeartbeats 4000000 in
theorem digits_ok (lo : Nat) : ∀ (m : Nat) (n : Int) {Z : Vw}, m ≤ 1000 → 0 ≤ n → n < m → CallP F lo 77 [.int .i64 n] Z fun r _ => ∃ s, r = .string s ∧ s.size ≤ 4 * m := by
  intro m
  induction m with
  | zero => intro n Z hm h0 h1; omega
  | succ m ih =>
  intro n Z hm h0 h1
  refine FnP (fn := c77) rfl rfl rfl ?_
  (refine W_seq ?_; (refine W_rgn ?_; ((refine Ra rfl (X_mv rfl ?_)) <;> (refine R_nil ?_))) <;> ((refine thenQ_nrm ?_; (refine W_seq ?_; (refine W_seq ?_; (refine W_rgn ?_; ((refine Ra rfl (X_mv rfl ?_)) <;> (refine Ra rfl (X_lss rfl rfl (fun _ => ?_) (fun _ => ?_))) <;> (refine R_nil ?_))) <;> ((refine thenQ_nrm ?_; (refine W_cond rfl (fun ht => ?_) (fun ht => ?_) <;> (first | exact absurd ht (by decide) | (refine W_seq ?_; (refine W_rgn ?_; ((refine Ra rfl (X_mv rfl ?_)) <;> (refine Ra rfl (X_addI rfl rfl (by omega) (by omega) ?_)) <;> (refine Ra rfl (X_conv rfl ?_)) <;> (refine Ra rfl (X_runeS rfl (fun s8 hs8 => ?_))) <;> (refine Ra rfl (X_mv rfl ?_)) <;> (refine R_nil ?_))) <;> ((refine thenQ_nrm ?_; (refine W_ret ?_)))) | (refine W_skip ?_)))))) <;> (first | refine thenQ_ret ?_ | (refine thenQ_nrm ?_; (refine W_seq ?_; (refine W_rgn ?_; ((refine Ra rfl (X_mv rfl ?_)) <;> (refine Ra rfl (X_quoI rfl rfl (by omega) (by omega) (by omega) ?_)) <;> (refine Ra rfl (xP (ih _ (by omega) (by omega) (by omega)) rfl (fun _ Z11 hz11 hq => ?_)); (obtain ⟨s11, rfl, hs11⟩ := hq)) <;> (refine Ra rfl (X_mv rfl ?_)) <;> (refine Ra rfl (X_remI rfl rfl (by omega) (by omega) ?_)) <;> (refine Ra rfl (X_addI rfl rfl (by omega) (by omega) ?_)) <;> (refine Ra rfl (X_conv rfl ?_)) <;> (refine Ra rfl (X_runeS rfl (fun s16 hs16 => ?_))) <;> (refine Ra rfl (X_addS rfl rfl (by omega) (fun s17 hs17 => ?_))) <;> (refine Ra rfl (X_mv rfl ?_)) <;> (refine R_nil ?_))) <;> ((refine thenQ_nrm ?_; (refine W_ret ?_))))))))))
  <;> (refine fnP_ret (Res.tmp rfl Res.nil) ?_)
  all_goals exact ⟨_, rfl, by omega⟩
set_option maxHeartbeats 4000000 in
theorem sign_ok (lo : Nat) {Z : Vw} (op : Int) : CallP F lo 78 [.int .i64 op] Z fun r _ => ∃ s, r = .string s ∧ s.size ≤ 2 := by
  refine FnP (fn := c78) rfl rfl rfl ?_
  (refine W_seq ?_; (refine W_rgn ?_; ((refine Ra rfl (X_mv rfl ?_)) <;> (refine R_nil ?_))) <;> ((refine thenQ_nrm ?_; (refine W_seq ?_; (refine W_seq ?_; (refine W_rgn ?_; ((refine Ra rfl (X_mv rfl ?_)) <;> (refine R_nil ?_))) <;> ((refine thenQ_nrm ?_; (refine W_block ?_; (refine W_seq ?_; (refine W_rgn ?_; ((refine Ra rfl (X_eql rfl rfl (fun _ => ?_) (fun _ => ?_))) <;> (refine Ra rfl (X_mv rfl ?_)) <;> (refine R_nil ?_))) <;> ((refine thenQ_nrm ?_; (refine W_cond rfl (fun ht => ?_) (fun ht => ?_) <;> (first | exact absurd ht (by decide) | (refine W_seq ?_; (refine W_rgn ?_; ((refine Ra rfl (X_mv rfl ?_)) <;> (refine R_nil ?_))) <;> ((refine thenQ_nrm ?_; (refine W_ret ?_)))) | (refine W_seq ?_; (refine W_rgn ?_; ((refine Ra rfl (X_eql rfl rfl (fun _ => ?_) (fun _ => ?_))) <;> (refine Ra rfl (X_mv rfl ?_)) <;> (refine R_nil ?_))) <;> ((refine thenQ_nrm ?_; (refine W_cond rfl (fun ht => ?_) (fun ht => ?_) <;> (first | exact absurd ht (by decide) | (refine W_seq ?_; (refine W_rgn ?_; ((refine Ra rfl (X_mv rfl ?_)) <;> (refine R_nil ?_))) <;> ((refine thenQ_nrm ?_; (refine W_ret ?_)))) | (refine W_seq ?_; (refine W_rgn ?_; ((refine Ra rfl (X_eql rfl rfl (fun _ => ?_) (fun _ => ?_))) <;> (refine Ra rfl (X_mv rfl ?_)) <;> (refine R_nil ?_))) <;> ((refine thenQ_nrm ?_; (refine W_cond rfl (fun ht => ?_) (fun ht => ?_) <;> (first | exact absurd ht (by decide) | (refine W_seq ?_; (refine W_rgn ?_; ((refine Ra rfl (X_mv rfl ?_)) <;> (refine R_nil ?_))) <;> ((refine thenQ_nrm ?_; (refine W_ret ?_)))) | (refine W_seq ?_; (refine W_rgn ?_; ((refine Ra rfl (X_eql rfl rfl (fun _ => ?_) (fun _ => ?_))) <;> (refine Ra rfl (X_mv rfl ?_)) <;> (refine R_nil ?_))) <;> ((refine thenQ_nrm ?_; (refine W_cond rfl (fun ht => ?_) (fun ht => ?_) <;> (first | exact absurd ht (by decide) | (refine W_seq ?_; (refine W_rgn ?_; ((refine Ra rfl (X_mv rfl ?_)) <;> (refine R_nil ?_))) <;> ((refine thenQ_nrm ?_; (refine W_ret ?_)))) | (refine W_seq ?_; (refine W_rgn ?_; ((refine Ra rfl (X_eql rfl rfl (fun _ => ?_) (fun _ => ?_))) <;> (refine Ra rfl (X_mv rfl ?_)) <;> (refine R_nil ?_))) <;> ((refine thenQ_nrm ?_; (refine W_cond rfl (fun ht => ?_) (fun ht => ?_) <;> (first | exact absurd ht (by decide) | (refine W_seq ?_; (refine W_rgn ?_; ((refine Ra rfl (X_mv rfl ?_)) <;> (refine R_nil ?_))) <;> ((refine thenQ_nrm ?_; (refine W_ret ?_)))) | (refine W_seq ?_; (refine W_rgn ?_; ((refine Ra rfl (X_eql rfl rfl (fun _ => ?_) (fun _ => ?_))) <;> (refine Ra rfl (X_mv rfl ?_)) <;> (refine R_nil ?_))) <;> ((refine thenQ_nrm ?_; (refine W_cond rfl (fun ht => ?_) (fun ht => ?_) <;> (first | exact absurd ht (by decide) | (refine W_seq ?_; (refine W_rgn ?_; ((refine Ra rfl (X_mv rfl ?_)) <;> (refine R_nil ?_))) <;> ((refine thenQ_nrm ?_; (refine W_ret ?_)))) | (refine W_seq ?_; (refine W_rgn ?_; ((refine Ra rfl (X_eql rfl rfl (fun _ => ?_) (fun _ => ?_))) <;> (refine Ra rfl (X_mv rfl ?_)) <;> (refine R_nil ?_))) <;> ((refine thenQ_nrm ?_; (refine W_cond rfl (fun ht => ?_) (fun ht => ?_) <;> (first | exact absurd ht (by decide) | (refine W_seq ?_; (refine W_rgn ?_; ((refine Ra rfl (X_mv rfl ?_)) <;> (refine R_nil ?_))) <;> ((refine thenQ_nrm ?_; (refine W_ret ?_)))) | (refine W_seq ?_; (refine W_rgn ?_; ((refine Ra rfl (X_eql rfl rfl (fun _ => ?_) (fun _ => ?_))) <;> (refine Ra rfl (X_mv rfl ?_)) <;> (refine R_nil ?_))) <;> ((refine thenQ_nrm ?_; (refine W_cond rfl (fun ht => ?_) (fun ht => ?_) <;> (first | exact absurd ht (by decide) | (refine W_seq ?_; (refine W_rgn ?_; ((refine Ra rfl (X_mv rfl ?_)) <;> (refine R_nil ?_))) <;> ((refine thenQ_nrm ?_; (refine W_ret ?_)))) | (refine W_seq ?_; (refine W_rgn ?_; ((refine Ra rfl (X_eql rfl rfl (fun _ => ?_) (fun _ => ?_))) <;> (refine Ra rfl (X_mv rfl ?_)) <;> (refine R_nil ?_))) <;> ((refine thenQ_nrm ?_; (refine W_cond rfl (fun ht => ?_) (fun ht => ?_) <;> (first | exact absurd ht (by decide) | (refine W_seq ?_; (refine W_rgn ?_; ((refine Ra rfl (X_mv rfl ?_)) <;> (refine R_nil ?_))) <;> ((refine thenQ_nrm ?_; (refine W_ret ?_)))) | (refine W_seq ?_; (refine W_rgn ?_; ((refine Ra rfl (X_eql rfl rfl (fun _ => ?_) (fun _ => ?_))) <;> (refine Ra rfl (X_mv rfl ?_)) <;> (refine R_nil ?_))) <;> ((refine thenQ_nrm ?_; (refine W_cond rfl (fun ht => ?_) (fun ht => ?_) <;> (first | exact absurd ht (by decide) | (refine W_seq ?_; (refine W_rgn ?_; ((refine Ra rfl (X_mv rfl ?_)) <;> (refine R_nil ?_))) <;> ((refine thenQ_nrm ?_; (refine W_ret ?_)))) | (refine W_seq ?_; (refine W_rgn ?_; ((refine Ra rfl (X_eql rfl rfl (fun _ => ?_) (fun _ => ?_))) <;> (refine Ra rfl (X_mv rfl ?_)) <;> (refine R_nil ?_))) <;> ((refine thenQ_nrm ?_; (refine W_cond rfl (fun ht => ?_) (fun ht => ?_) <;> (first | exact absurd ht (by decide) | (refine W_seq ?_; (refine W_rgn ?_; ((refine Ra rfl (X_mv rfl ?_)) <;> (refine R_nil ?_))) <;> ((refine thenQ_nrm ?_; (refine W_ret ?_)))) | (refine W_seq ?_; (refine W_rgn ?_; ((refine Ra rfl (X_eql rfl rfl (fun _ => ?_) (fun _ => ?_))) <;> (refine Ra rfl (X_mv rfl ?_)) <;> (refine R_nil ?_))) <;> ((refine thenQ_nrm ?_; (refine W_cond rfl (fun ht => ?_) (fun ht => ?_) <;> (first | exact absurd ht (by decide) | (refine W_seq ?_; (refine W_rgn ?_; ((refine Ra rfl (X_mv rfl ?_)) <;> (refine R_nil ?_))) <;> ((refine thenQ_nrm ?_; (refine W_ret ?_)))) | (refine W_skip ?_))))))))))))))))))))))))))))))))))))))))))))))))))))))))))))) <;> (first | refine blockQ_nrm ?_ | refine blockQ_ret ?_))))) <;> (first | refine thenQ_ret ?_ | (refine thenQ_nrm ?_; (refine W_seq ?_; (refine W_rgn ?_; ((refine Ra rfl (X_mv rfl ?_)) <;> (refine R_nil ?_))) <;> ((refine thenQ_nrm ?_; (refine W_ret ?_))))))))))
  <;> (refine fnP_ret (Res.tmp rfl Res.nil) ?_)
  all_goals exact ⟨_, rfl, by decide⟩
set_option maxHeartbeats 4000000 in
theorem text_ok (lo : Nat) {w k : Int} {vv : Value} {vs : List Vr} (hw : widP w) (hk3 : k ≤ 3) (hnm2 : ∀ i, i < vs.length → (vs.getD i default).nm.length ≤ 12) (hvl : vs.length < 9223372036854775808) : ∀ (t : Et) {Z : Vw} (_ : Tr Z t) (_ : Vrs Z vv vs) (_ : formE w vs k t.er) (_ : t.er.size ≤ 1000), CallP F lo 45 [.agg ⟨[.int .i64 w, vv, .int .i64 k]⟩, .agg ⟨t.cs⟩] Z fun r _ => ∃ s, r = .string s ∧ s.size ≤ 20000 * t.er.size := by
  intro t
  induction t using Et.ind with
  | h op n c v ks ih =>
  intro Z ht hv hfm hsz
  rw [Tr_mk] at ht
  obtain ⟨⟨hf, hlen⟩, hk⟩ := ht
  have hEl : (ks.map Et.er).length = ks.length := List.length_map _
  have hSL := kids_same hk
  rw [sizeT_mk] at hsz
  have hy0 : Ex.sizeL ((ks.map Et.er).take 0) = 0 := by rw [List.take_zero, Ex.sizeL]
  have hy1 : 0 < ks.length → Ex.sizeL ((ks.map Et.er).take 1) = Ex.sizeL ((ks.map Et.er).take 0) + (ks.getD 0 default).er.size := sizeT_take (i := 0)
  have hy2 : 1 < ks.length → Ex.sizeL ((ks.map Et.er).take 2) = Ex.sizeL ((ks.map Et.er).take 1) + (ks.getD 1 default).er.size := sizeT_take (i := 1)
  have hy3 : 2 < ks.length → Ex.sizeL ((ks.map Et.er).take 3) = Ex.sizeL ((ks.map Et.er).take 2) + (ks.getD 2 default).er.size := sizeT_take (i := 2)
  have hz1 : Ex.sizeL ((ks.map Et.er).take 1) ≤ Ex.sizeL (ks.map Et.er) := Ex.sizeL_le
  have hz2 : Ex.sizeL ((ks.map Et.er).take 2) ≤ Ex.sizeL (ks.map Et.er) := Ex.sizeL_le
  have hz3 : Ex.sizeL ((ks.map Et.er).take 3) ≤ Ex.sizeL (ks.map Et.er) := Ex.sizeL_le
  have hl0 : ({ data := #[64] } : ByteArray).size = 1 := rfl
  have hl1 : ({ data := #[91] } : ByteArray).size = 1 := rfl
  have hl2 : ({ data := #[93] } : ByteArray).size = 1 := rfl
  have hl3 : ({ data := #[126] } : ByteArray).size = 1 := rfl
  have hl4 : ({ data := #[40] } : ByteArray).size = 1 := rfl
  have hl5 : ({ data := #[32, 63, 32] } : ByteArray).size = 3 := rfl
  have hl6 : ({ data := #[32, 58, 32] } : ByteArray).size = 3 := rfl
  have hl7 : ({ data := #[41] } : ByteArray).size = 1 := rfl
  have hl8 : ({ data := #[32] } : ByteArray).size = 1 := rfl
  rw [formT_mk] at hfm
  obtain ⟨hnd, hfk⟩ := hfm
  have hna := nodeP_arity hnd
  obtain ⟨hn1, hn2, hn3, hn4, hn5, hn6⟩ := hna
  have hnz : op = 1 → ({ data := { toList := (vs.getD n.toNat default).nm } } : ByteArray).size ≤ 12 := fun h => hnm2 n.toNat (by have q := hn3 h; omega)
  have hn7 := fun a b c d => (hn6 a b c d).1
  have hpw := pow_w hw.1 hw.2
  have hn0 : op = 0 → 0 ≤ n ∧ n < 1000 := fun h => by
    have q := ((nodeP_0 h).1 hnd).2.2.2
    unfold wrdP at q
    omega
  simp only [Et.cs]
  refine FnP (fn := c45) rfl rfl rfl ?_
  (refine W_seq ?_; (refine W_rgn ?_; ((refine Ra rfl (xBox rfl (fun b2 => ?_))) <;> (refine Ra rfl (xBox rfl (fun b3 => ?_))) <;> (refine Ra rfl (X_mv rfl ?_)) <;> (refine R_nil ?_))) <;> ((refine thenQ_nrm ?_; (refine W_seq ?_; (refine W_seq ?_; (refine W_rgn ?_; ((refine Ra rfl (X_faddr rfl ?_)) <;> (refine Ra rfl (X_load (lB rfl rfl) ?_)) <;> (refine R_nil ?_))) <;> ((refine thenQ_nrm ?_; (refine W_block ?_; (refine W_seq ?_; (refine W_rgn ?_; ((refine Ra rfl (X_eql rfl rfl (fun _ => ?_) (fun _ => ?_))) <;> (refine Ra rfl (X_mv rfl ?_)) <;> (refine R_nil ?_))) <;> ((refine thenQ_nrm ?_; (refine W_cond rfl (fun ht => ?_) (fun ht => ?_) <;> (first | exact absurd ht (by decide) | (refine W_seq ?_; (refine W_rgn ?_; ((refine Ra rfl (X_faddr rfl ?_)) <;> (refine Ra rfl (X_load (lB rfl rfl) ?_)) <;> (refine Ra rfl (xP (digits_ok lo 1000 _ (by omega) (by omega) (by omega)) rfl (fun _ Z12 hz12 hq => ?_)); (obtain ⟨s12, rfl, hs12⟩ := hq)) <;> (refine Ra rfl (X_mv rfl ?_)) <;> (refine R_nil ?_))) <;> ((refine thenQ_nrm ?_; (refine W_ret ?_)))) | (refine W_seq ?_; (refine W_rgn ?_; ((refine Ra rfl (X_eql rfl rfl (fun _ => ?_) (fun _ => ?_))) <;> (refine Ra rfl (X_mv rfl ?_)) <;> (refine R_nil ?_))) <;> ((refine thenQ_nrm ?_; (refine W_cond rfl (fun ht => ?_) (fun ht => ?_) <;> (first | exact absurd ht (by decide) | (refine W_seq ?_; (refine W_rgn ?_; ((refine Ra rfl (X_faddr rfl ?_)) <;> (refine Ra rfl (X_load (lB rfl rfl) ?_)) <;> (refine Ra rfl (X_faddr rfl ?_)) <;> (refine Ra rfl (X_load (lB rfl rfl) ?_)) <;> (refine Ra rfl (xIa rfl rfl (by omega) (by omega) ?_)) <;> (refine Ra rfl (X_faddr rfl ?_)) <;> (refine Ra rfl (X_load (lE0 rfl (by omega) rfl) ?_)) <;> (refine Ra rfl (X_mv rfl ?_)) <;> (refine R_nil ?_))) <;> ((refine thenQ_nrm ?_; (refine W_seq ?_; (refine W_seq ?_; (refine W_rgn ?_; ((refine Ra rfl (X_faddr rfl ?_)) <;> (refine Ra rfl (X_load (lB rfl rfl) ?_)) <;> (refine Ra rfl (X_gtr rfl rfl (fun _ => ?_) (fun _ => ?_))) <;> (refine R_nil ?_))) <;> ((refine thenQ_nrm ?_; (refine W_cond rfl (fun ht => ?_) (fun ht => ?_) <;> (first | exact absurd ht (by decide) | (refine W_rgn ?_; ((refine Ra rfl (X_mv rfl ?_)) <;> (refine Ra rfl (X_faddr rfl ?_)) <;> (refine Ra rfl (X_load (lB rfl rfl) ?_)) <;> (refine Ra rfl (xP (digits_ok lo 1000 _ (by omega) (by omega) (by omega)) rfl (fun _ Z28 hz28 hq => ?_)); (obtain ⟨s28, rfl, hs28⟩ := hq)) <;> (refine Ra rfl (X_addS rfl rfl (by omega) (fun s29 hs29 => ?_))) <;> (refine Ra rfl (X_addS rfl rfl (by omega) (fun s30 hs30 => ?_))) <;> (refine Ra rfl (X_mv rfl ?_)) <;> (refine R_nil ?_))) | (refine W_skip ?_)))))) <;> ((refine thenQ_nrm ?_; (refine W_seq ?_; (refine W_seq ?_; (refine W_rgn ?_; ((refine Ra rfl (X_faddr rfl ?_)) <;> (refine Ra rfl (X_load (lB rfl rfl) ?_)) <;> (refine Ra rfl (xLen rfl ?_)) <;> (refine Ra rfl (X_gtr rfl rfl (fun _ => ?_) (fun _ => ?_))) <;> (refine R_nil ?_))) <;> ((refine thenQ_nrm ?_; (refine W_cond rfl (fun ht => ?_) (fun ht => ?_) <;> (first | exact absurd ht (by decide) | (refine W_drw ?_; ((refine Da rfl rfl (X_mv rfl ?_)) <;> (refine Da rfl rfl (X_load (lBA rfl rfl) ?_)) <;> (refine Da rfl rfl (X_faddr rfl ?_)) <;> (refine Da rfl rfl (X_load (lB rfl rfl) ?_)) <;> (refine Da rfl rfl (xIa rfl rfl (by omega) (by omega) ?_)) <;> (refine Da rfl rfl (X_load (lEA rfl (by omega)) ?_)) <;> (refine Da rfl rfl (xP (ih (ks.getD 0 default) (getD_in (by omega)) (Tr.le ZC.le (hk _ (getD_in (by omega)))) (Fz.le hv ZC.le) (hfk 0 (by omega)) (by omega)) rfl (fun _ Z41 hz41 hq => ?_)); (obtain ⟨s41, rfl, hs41⟩ := hq)) <;> (refine Da rfl rfl (X_addS rfl rfl (by omega) (fun s42 hs42 => ?_))) <;> (refine Da rfl rfl (X_addS rfl rfl (by omega) (fun s43 hs43 => ?_))) <;> (refine Da rfl rfl (X_addS rfl rfl (by omega) (fun s44 hs44 => ?_))) <;> (refine Da rfl rfl (X_mv rfl ?_)) <;> (refine D_nil ?_))) | (refine W_skip ?_)))))) <;> ((refine thenQ_nrm ?_; (refine W_seq ?_; (refine W_rgn ?_; ((refine Ra rfl (X_mv rfl ?_)) <;> (refine Ra rfl (X_mv rfl ?_)) <;> (refine R_nil ?_))) <;> ((refine thenQ_nrm ?_; (refine W_ret ?_))))))))))))) | (refine W_seq ?_; (refine W_rgn ?_; ((refine Ra rfl (X_eql rfl rfl (fun _ => ?_) (fun _ => ?_))) <;> (refine Ra rfl (X_mv rfl ?_)) <;> (refine R_nil ?_))) <;> ((refine thenQ_nrm ?_; (refine W_cond rfl (fun ht => ?_) (fun ht => ?_) <;> (first | exact absurd ht (by decide) | (refine W_seq ?_; (refine W_drw ?_; ((refine Da rfl rfl (X_load (lBA rfl rfl) ?_)) <;> (refine Da rfl rfl (X_faddr rfl ?_)) <;> (refine Da rfl rfl (X_load (lB rfl rfl) ?_)) <;> (refine Da rfl rfl (xIa rfl rfl (by omega) (by omega) ?_)) <;> (refine Da rfl rfl (X_load (lEA rfl (by omega)) ?_)) <;> (refine Da rfl rfl (xP (ih (ks.getD 0 default) (getD_in (by omega)) (Tr.le ZC.le (hk _ (getD_in (by omega)))) (Fz.le hv ZC.le) (hfk 0 (by omega)) (by omega)) rfl (fun _ Z53 hz53 hq => ?_)); (obtain ⟨s53, rfl, hs53⟩ := hq)) <;> (refine Da rfl rfl (X_addS rfl rfl (by omega) (fun s54 hs54 => ?_))) <;> (refine Da rfl rfl (X_mv rfl ?_)) <;> (refine D_nil ?_))) <;> ((refine thenQ_nrm ?_; (refine W_ret ?_)))) | (refine W_seq ?_; (refine W_rgn ?_; ((refine Ra rfl (X_eql rfl rfl (fun _ => ?_) (fun _ => ?_))) <;> (refine Ra rfl (X_mv rfl ?_)) <;> (refine R_nil ?_))) <;> ((refine thenQ_nrm ?_; (refine W_cond rfl (fun ht => ?_) (fun ht => ?_) <;> (first | exact absurd ht (by decide) | (refine W_seq ?_; (refine W_drw ?_; ((refine Da rfl rfl (X_load (lBA rfl rfl) ?_)) <;> (refine Da rfl rfl (X_faddr rfl ?_)) <;> (refine Da rfl rfl (X_load (lB rfl rfl) ?_)) <;> (refine Da rfl rfl (xIa rfl rfl (by omega) (by omega) ?_)) <;> (refine Da rfl rfl (X_load (lEA rfl (by omega)) ?_)) <;> (refine Da rfl rfl (X_load (lBA rfl rfl) ?_)) <;> (refine Da rfl rfl (X_faddr rfl ?_)) <;> (refine Da rfl rfl (X_load (lB rfl rfl) ?_)) <;> (refine Da rfl rfl (xIa rfl rfl (by omega) (by omega) ?_)) <;> (refine Da rfl rfl (X_load (lEA rfl (by omega)) ?_)) <;> (refine Da rfl rfl (X_load (lBA rfl rfl) ?_)) <;> (refine Da rfl rfl (X_faddr rfl ?_)) <;> (refine Da rfl rfl (X_load (lB rfl rfl) ?_)) <;> (refine Da rfl rfl (xIa rfl rfl (by omega) (by omega) ?_)) <;> (refine Da rfl rfl (X_load (lEA rfl (by omega)) ?_)) <;> (refine D_consR rfl (S_do rfl (xP (ih (ks.getD 0 default) (getD_in (by omega)) (Tr.le ZC.le (hk _ (getD_in (by omega)))) (Fz.le hv ZC.le) (hfk 0 (by omega)) (by omega)) rfl (fun _ Z62 hz62 hq => ⟨(by (refine rDo rfl rfl (lBA rfl rfl) ?_); (refine rDo rfl rfl (lB rfl rfl) ?_); (refine rDo rfl rfl (lEA rfl (by omega)) ?_); (refine rDo rfl rfl (lBA rfl rfl) ?_); (refine rDo rfl rfl (lB rfl rfl) ?_); (refine rDo rfl rfl (lEA rfl (by omega)) ?_); exact Rck_nil), ?_⟩))); (obtain ⟨s62, rfl, hs62⟩ := hq)) <;> (refine Da rfl rfl (X_addS rfl rfl (by omega) (fun s63 hs63 => ?_))) <;> (refine Da rfl rfl (X_addS rfl rfl (by omega) (fun s64 hs64 => ?_))) <;> (refine D_consR rfl (S_do rfl (xP (ih (ks.getD 1 default) (getD_in (by omega)) (Tr.le ZC.le (hk _ (getD_in (by omega)))) (Fz.le hv ZC.le) (hfk 1 (by omega)) (by omega)) rfl (fun _ Z70 hz70 hq => ⟨(by (refine rDo rfl rfl (lBA rfl rfl) ?_); (refine rDo rfl rfl (lB rfl rfl) ?_); (refine rDo rfl rfl (lEA rfl (by omega)) ?_); exact Rck_nil), ?_⟩))); (obtain ⟨s70, rfl, hs70⟩ := hq)) <;> (refine Da rfl rfl (X_addS rfl rfl (by omega) (fun s71 hs71 => ?_))) <;> (refine Da rfl rfl (X_addS rfl rfl (by omega) (fun s72 hs72 => ?_))) <;> (refine Da rfl rfl (xP (ih (ks.getD 2 default) (getD_in (by omega)) (Tr.le ZC.le (hk _ (getD_in (by omega)))) (Fz.le hv ZC.le) (hfk 2 (by omega)) (by omega)) rfl (fun _ Z78 hz78 hq => ?_)); (obtain ⟨s78, rfl, hs78⟩ := hq)) <;> (refine Da rfl rfl (X_addS rfl rfl (by omega) (fun s79 hs79 => ?_))) <;> (refine Da rfl rfl (X_addS rfl rfl (by omega) (fun s80 hs80 => ?_))) <;> (refine Da rfl rfl (X_mv rfl ?_)) <;> (refine D_nil ?_))) <;> ((refine thenQ_nrm ?_; (refine W_ret ?_)))) | (refine W_skip ?_))))))))))))))))))))) <;> (first | refine blockQ_nrm ?_ | refine blockQ_ret ?_))))) <;> (first | refine thenQ_ret ?_ | (refine thenQ_nrm ?_; (refine W_seq ?_; (refine W_drw ?_; ((refine Da rfl rfl (X_load (lBA rfl rfl) ?_)) <;> (refine Da rfl rfl (X_faddr rfl ?_)) <;> (refine Da rfl rfl (X_load (lB rfl rfl) ?_)) <;> (refine Da rfl rfl (xIa rfl rfl (by omega) (by omega) ?_)) <;> (refine Da rfl rfl (X_load (lEA rfl (by omega)) ?_)) <;> (refine Da rfl rfl (X_faddr rfl ?_)) <;> (refine Da rfl rfl (X_load (lB rfl rfl) ?_)) <;> (refine Da rfl rfl (X_load (lBA rfl rfl) ?_)) <;> (refine Da rfl rfl (X_faddr rfl ?_)) <;> (refine Da rfl rfl (X_load (lB rfl rfl) ?_)) <;> (refine Da rfl rfl (xIa rfl rfl (by omega) (by omega) ?_)) <;> (refine Da rfl rfl (X_load (lEA rfl (by omega)) ?_)) <;> (refine D_consR rfl (S_do rfl (xP (ih (ks.getD 0 default) (getD_in (by omega)) (Tr.le ZC.le (hk _ (getD_in (by omega)))) (Fz.le hv ZC.le) (hfk 0 (by omega)) (by omega)) rfl (fun _ Z86 hz86 hq => ⟨(by (refine rDo rfl rfl (lB rfl rfl) ?_); (refine rDo rfl rfl (lBA rfl rfl) ?_); (refine rDo rfl rfl (lB rfl rfl) ?_); (refine rDo rfl rfl (lEA rfl (by omega)) ?_); exact Rck_nil), ?_⟩))); (obtain ⟨s86, rfl, hs86⟩ := hq)) <;> (refine Da rfl rfl (X_addS rfl rfl (by omega) (fun s87 hs87 => ?_))) <;> (refine Da rfl rfl (X_addS rfl rfl (by omega) (fun s88 hs88 => ?_))) <;> (refine D_consR rfl (S_do rfl (xP (sign_ok lo _) rfl (fun _ Z91 hz91 hq => ⟨(by (refine rDo rfl rfl (lBA rfl rfl) ?_); (refine rDo rfl rfl (lB rfl rfl) ?_); (refine rDo rfl rfl (lEA rfl (by omega)) ?_); exact Rck_nil), ?_⟩))); (obtain ⟨s91, rfl, hs91⟩ := hq)) <;> (refine Da rfl rfl (X_addS rfl rfl (by omega) (fun s92 hs92 => ?_))) <;> (refine Da rfl rfl (X_addS rfl rfl (by omega) (fun s93 hs93 => ?_))) <;> (refine Da rfl rfl (xP (ih (ks.getD 1 default) (getD_in (by omega)) (Tr.le ZC.le (hk _ (getD_in (by omega)))) (Fz.le hv ZC.le) (hfk 1 (by omega)) (by omega)) rfl (fun _ Z99 hz99 hq => ?_)); (obtain ⟨s99, rfl, hs99⟩ := hq)) <;> (refine Da rfl rfl (X_addS rfl rfl (by omega) (fun s100 hs100 => ?_))) <;> (refine Da rfl rfl (X_addS rfl rfl (by omega) (fun s101 hs101 => ?_))) <;> (refine Da rfl rfl (X_mv rfl ?_)) <;> (refine D_nil ?_))) <;> ((refine thenQ_nrm ?_; (refine W_ret ?_))))))))))
  <;> (refine fnP_ret (Res.tmp rfl Res.nil) ?_)
  all_goals exact ⟨_, rfl, by rw [sizeT_mk]; omega⟩
set_option maxHeartbeats 4000000 in
theorem String_ok (lo : Nat) {Z : Vw} {w k : Int} {vv : Value} {vs : List Vr} {t : Et} (hvl : vs.length < 9223372036854775808) (hnm : ∀ i, i < vs.length → (vs.getD i default).nm.length < 9223372036854775808) (hv : Vrs Z vv vs) (htr : Tr Z t) : CallP F lo 16 [.int .i64 w, vv, .int .i64 k, .agg ⟨t.cs⟩] Z fun r _ => ∃ s c, r = .tuple ⟨[.string s, .int .i64 c]⟩ := by
  refine FnP (fn := c16) rfl rfl rfl ?_
  (refine W_seq ?_; (refine W_rgn ?_; ((refine Ra rfl (xBox rfl (fun b7 => ?_))) <;> (refine Ra rfl (X_mv rfl ?_)) <;> (refine Ra rfl (X_mv rfl ?_)) <;> (refine R_nil ?_))) <;> ((refine thenQ_nrm ?_; (refine W_seq ?_; (refine W_rgn ?_; ((refine Ra rfl (X_mv rfl ?_)) <;> (refine Ra rfl (X_mv rfl ?_)) <;> (refine Ra rfl (X_mv rfl ?_)) <;> (refine Ra rfl (X_buildC (pCons rfl (pCons rfl (pCons rfl Parts.nil))) rfl ?_)) <;> (refine Ra rfl (X_alloc (fun b10 => ?_))) <;> (refine Rn (xSW rfl rfl rfl rfl ?_)) <;> (refine R_nil ?_))) <;> ((refine thenQ_nrm ?_; (refine W_seq ?_; (refine W_seq ?_; (refine W_rgn ?_; ((refine Ra rfl (X_load (lBA rfl rfl) ?_)) <;> (refine Ra rfl (X_load (lBA rfl (Et.b4 _)) ?_)) <;> (refine Ra rfl (xP (check_ok lo (by assumption) (by assumption) (by first | assumption | exact Fz.le (by assumption) ZC.le) (by first | assumption | exact Tr.le ZC.le (by assumption))) rfl (fun _ Z18 hz18 hq => ?_)); (obtain ⟨e18, rfl, hq⟩ := hq; rcases hq with ⟨rfl, q1, q2, q3, hI⟩ | ⟨rfl, q1⟩ | ⟨rfl, q1, hI⟩; have hnm2 : ∀ i, i < vs.length → (vs.getD i default).nm.length ≤ 12 := fun i hi => (by obtain ⟨r1, r2⟩ := q1.2.2.2.1 i hi; exact r1.2.1))) <;> (refine Ra rfl (X_mv rfl ?_)) <;> (refine R_nil ?_))) <;> ((refine thenQ_nrm ?_; (refine W_seq ?_; (refine W_rgn ?_; ((refine Ra rfl (X_mv rfl ?_)) <;> (first | (refine Ra rfl (X_bin (v := .bool true) rfl rfl rfl ?_)) | (refine Ra rfl (X_bin (v := .bool false) rfl rfl rfl ?_))) <;> (refine R_nil ?_))) <;> ((refine thenQ_nrm ?_; (refine W_cond rfl (fun ht => ?_) (fun ht => ?_) <;> (first | exact absurd ht (by decide) | (refine W_seq ?_; (refine W_rgn ?_; ((refine Ra rfl (X_mv rfl ?_)) <;> (refine Ra rfl (X_mv rfl ?_)) <;> (refine Ra rfl (X_mv rfl ?_)) <;> (refine R_nil ?_))) <;> ((refine thenQ_nrm ?_; (refine W_ret ?_)))) | (refine W_skip ?_))))))))) <;> (first | refine thenQ_ret ?_ | (refine thenQ_nrm ?_; (refine W_seq ?_; (refine W_rgn ?_; ((refine Ra rfl (X_load (lBA rfl rfl) ?_)) <;> (refine Ra rfl (X_load (lBA rfl (Et.b4 _)) ?_)) <;> (refine Ra rfl (xP (text_ok lo q1.1 q3 hnm2 hvl t (Tr.le ZC.le htr) (Fz.le hv ZC.le) hI.2.2 (by have q9 := hI.1; omega)) rfl (fun _ Z24 hz24 hq => ?_)); (obtain ⟨s24, rfl, hs24⟩ := hq)) <;> (refine Ra rfl (X_mv rfl ?_)) <;> (refine Ra rfl (X_mv rfl ?_)) <;> (refine R_nil ?_))) <;> ((refine thenQ_nrm ?_; (refine W_ret ?_)))))))))))))
  <;> (refine fnP_ret (Res.tmp rfl (Res.tmp rfl Res.nil)) ?_)
  all_goals exact ⟨_, _, rfl⟩
set_option maxHeartbeats 4000000 in
theorem WCopy_ok (lo : Nat) {Z : Vw} {v : Value} {l : List Int} (hl : Fz Z 1 v (l.map cI)) (hlen : l.length ≤ 10000000) : CallP F lo 30 [v] Z fun r Z' => Fz Z' 1 r (l.map cI) := by
  refine FnP (fn := c30) rfl rfl rfl ?_
  (refine W_seq ?_; (refine W_rgn ?_; ((refine Ra rfl (X_mv rfl ?_)) <;> (refine R_nil ?_))) <;> ((refine thenQ_nrm ?_; (refine W_seq ?_; (refine W_rgn ?_; ((refine Ra rfl (X_mv rfl ?_)) <;> (refine R_nil ?_))) <;> ((refine thenQ_nrm ?_; (refine W_seq ?_; (refine W_seq ?_; (refine W_rgn ?_; ((refine Ra rfl (X_mv rfl ?_)) <;> (refine R_nil ?_))) <;> ((refine thenQ_nrm ?_; (refine W_block ?_; ((
      refine wLoop (fun (p : Nat × Value) => match p with | (i, vl) => [(4, .int .i64 (i : Nat)), (3, vl)]) (fun p => match p with | (i, vl) => [.gro vl 1 ((l.take i).map cI)]) (fun p _ => match p with | (i, _) => i ≤ l.length) (fun p => match p with | (i, _) => l.length - i) (0, .slice none 0 0) (by repeat' (first | exact trivial | exact rfl | constructor)) (Upd.gro0 (e := 1) (by decide) (Upd.done ⟨Nat.zero_le _, hG rfl Has.nil⟩)) ?_
      rintro ⟨i, vl⟩ Z1 hz1 hi
      have hi : i ≤ l.length := hi) <;> (refine W_seq ?_; (refine W_seq ?_; (refine W_rgn ?_; ((refine Ra rfl (X_mv rfl ?_)) <;> (refine Ra rfl (X_mv rfl ?_)) <;> (refine Ra rfl (xLen rfl ?_)) <;> (refine Ra rfl (X_lss rfl rfl (fun _ => ?_) (fun _ => ?_))) <;> (refine R_nil ?_))) <;> ((refine thenQ_nrm ?_; (refine W_cond rfl (fun ht => ?_) (fun ht => ?_) <;> (first | exact absurd ht (by decide) | (refine W_skip ?_) | (refine W_exit ?_)))))) <;> (first | refine thenQ_ext ?_ | (refine thenQ_nrm ?_; (refine W_seq ?_; (refine W_block ?_; (refine W_rgn ?_; ((refine Ra rfl (X_mv rfl ?_)) <;> (refine Ra rfl (X_mv rfl ?_)) <;> (refine Ra rfl (X_mv rfl ?_)) <;> (refine Ra rfl (xIa rfl rfl (by omega) (by omega) ?_)) <;> (refine Ra rfl (X_load (lE0 rfl (by omega) rfl) ?_)) <;> (refine Ra rfl (X_bsliceC (pCons rfl Parts.nil) rfl rfl rfl (fun v16 => ?_))) <;> (refine Ra rfl (xApGm (fe := cI) (l.getD i default) rfl rfl rfl (by simp; omega) (fun v17 => ?_))) <;> (refine Ra rfl (X_mv rfl ?_)) <;> (refine R_nil ?_))) <;> (refine blockQ_nrm ?_)) <;> ((refine thenQ_nrm ?_; (refine W_rgn ?_; ((refine Ra rfl (X_mv rfl ?_)) <;> (refine Ra rfl (X_addI rfl rfl (by omega) (by omega) ?_)) <;> (refine Ra rfl (X_mv rfl ?_)) <;> (refine R_nil ?_))))))))) <;> (first | refine thenQ_ext ?_ | (refine thenQ_nrm ?_; (
        refine Upd.done ⟨(i + 1, _), ?_, ?_, (by repeat' (first | exact trivial | exact rfl | constructor)), hG ?_ Has.nil⟩
        · show l.length - (i + 1) < l.length - i
          omega
        · show i + 1 ≤ l.length
          omega
        · rw [List.take_succ, getD_at (by omega)]; rfl)))) <;> (refine blockQ_ext ?_))))) <;> ((refine thenQ_nrm ?_; (refine W_seq ?_; (refine W_rgn ?_; ((refine Ra rfl (X_mv rfl ?_)) <;> (refine Ra rfl (X_mv rfl ?_)) <;> (refine R_nil ?_))) <;> ((refine thenQ_nrm ?_; (refine W_ret ?_)))))))))))))
  <;> (refine fn_ret (Res.tmp rfl Res.nil) ?_)
  have hi2 : i = l.length := by omega
  subst hi2
  refine uG vl fun Za hza hfa => Upd.nil ⟨rfl, ?_⟩
  rw [List.take_length] at hfa
  exact hfa
set_option maxHeartbeats 4000000 in
theorem WSame_ok (lo : Nat) {Z : Vw} {v v' : Value} {l l' : List Int} [hl : FzL Z 1 v (l.map cI)] [hl' : FzL Z 1 v' (l'.map cI)] (hlen : l.length < 9223372036854775808) : CallP F lo 31 [v, v'] Z fun r _ => ∃ b, r = .bool b ∧ (b = true ↔ l = l') := by
  have hl := hl.out
  have hl' := hl'.out
  refine FnP (fn := c31) rfl rfl rfl ?_
  (refine W_seq ?_; (refine W_rgn ?_; ((refine Ra rfl (X_mv rfl ?_)) <;> (refine R_nil ?_))) <;> ((refine thenQ_nrm ?_; (refine W_seq ?_; (refine W_seq ?_; (refine W_rgn ?_; ((refine Ra rfl (X_mv rfl ?_)) <;> (refine Ra rfl (xLen rfl ?_)) <;> (refine Ra rfl (X_mv rfl ?_)) <;> (refine Ra rfl (xLen rfl ?_)) <;> (refine Ra rfl (X_neq rfl rfl (fun _ => ?_) (fun _ => ?_))) <;> (refine R_nil ?_))) <;> ((refine thenQ_nrm ?_; (refine W_cond rfl (fun ht => ?_) (fun ht => ?_) <;> (first | exact absurd ht (by decide) | (refine W_seq ?_; (refine W_rgn ?_; ((refine Ra rfl (X_mv rfl ?_)) <;> (refine R_nil ?_))) <;> ((refine thenQ_nrm ?_; (refine W_ret ?_)))) | (refine W_skip ?_)))))) <;> (first | refine thenQ_ret ?_ | (refine thenQ_nrm ?_; (refine W_seq ?_; (refine W_seq ?_; (refine W_rgn ?_; ((refine Ra rfl (X_mv rfl ?_)) <;> (refine R_nil ?_))) <;> ((refine thenQ_nrm ?_; (refine W_block ?_; ((
      refine wLoop (fun i : Nat => [(5, .int .i64 i)]) (fun i => []) (fun i Zi => i ≤ l.length ∧ ∀ j, j < i → l.getD j default = l'.getD j default) (fun i => l.length - i) 0 (by repeat' (first | exact trivial | exact rfl | constructor)) (Upd.done ⟨⟨Nat.zero_le _, fun j hj => absurd hj (by omega)⟩, Has.nil⟩) ?_
      intro i Z1 hz1 hp
      obtain ⟨hi, hp⟩ := hp) <;> (refine W_seq ?_; (refine W_seq ?_; (refine W_rgn ?_; ((refine Ra rfl (X_mv rfl ?_)) <;> (refine Ra rfl (X_mv rfl ?_)) <;> (refine Ra rfl (xLen rfl ?_)) <;> (refine Ra rfl (X_lss rfl rfl (fun _ => ?_) (fun _ => ?_))) <;> (refine R_nil ?_))) <;> ((refine thenQ_nrm ?_; (refine W_cond rfl (fun ht => ?_) (fun ht => ?_) <;> (first | exact absurd ht (by decide) | (refine W_skip ?_) | (refine W_exit ?_)))))) <;> (first | refine thenQ_ext ?_ | (refine thenQ_nrm ?_; (refine W_seq ?_; (refine W_block ?_; (refine W_seq ?_; (refine W_drw ?_; ((refine Da rfl rfl (X_mv rfl ?_)) <;> (refine Da rfl rfl (X_mv rfl ?_)) <;> (refine Da rfl rfl (xIa rfl rfl (by omega) (by omega) ?_)) <;> (refine Da rfl rfl (X_load (lE0 rfl (by omega) rfl) ?_)) <;> (refine Da rfl rfl (X_mv rfl ?_)) <;> (refine Da rfl rfl (X_mv rfl ?_)) <;> (refine Da rfl rfl (xIa rfl rfl (by omega) (by omega) ?_)) <;> (refine Da rfl rfl (X_load (lE0 rfl (by omega) rfl) ?_)) <;> (refine Da rfl rfl (X_neq rfl rfl (fun _ => ?_) (fun _ => ?_))) <;> (refine D_nil ?_))) <;> ((refine thenQ_nrm ?_; (refine W_cond rfl (fun ht => ?_) (fun ht => ?_) <;> (first | exact absurd ht (by decide) | (refine W_seq ?_; (refine W_rgn ?_; ((refine Ra rfl (X_mv rfl ?_)) <;> (refine R_nil ?_))) <;> ((refine thenQ_nrm ?_; (refine W_ret ?_)))) | (refine W_skip ?_)))))) <;> (first | refine blockQ_nrm ?_ | refine blockQ_ret ?_)) <;> (first | refine thenQ_ret ?_ | (refine thenQ_nrm ?_; (refine W_rgn ?_; ((refine Ra rfl (X_mv rfl ?_)) <;> (refine Ra rfl (X_addI rfl rfl (by omega) (by omega) ?_)) <;> (refine Ra rfl (X_mv rfl ?_)) <;> (refine R_nil ?_))))))))) <;> (first | refine thenQ_ret ?_ | refine thenQ_ext ?_ | (refine thenQ_nrm ?_; (
        refine Upd.done ⟨i + 1, by omega, ⟨by omega, fun j hj => ?_⟩, (by repeat' (first | exact trivial | exact rfl | constructor)), Has.nil⟩
        rcases Nat.lt_or_ge j i with hj | hj
        · exact hp j hj
        · obtain rfl : j = i := by omega
          assumption)))) <;> (first | refine blockQ_ret ?_ | refine blockQ_ext ?_))))) <;> (first | refine thenQ_ret ?_ | (refine thenQ_nrm ?_; (refine W_seq ?_; (refine W_rgn ?_; ((refine Ra rfl (X_mv rfl ?_)) <;> (refine R_nil ?_))) <;> ((refine thenQ_nrm ?_; (refine W_ret ?_)))))))))))))
  <;> (refine fnP_ret (Res.tmp rfl Res.nil) ?_)
  all_goals first
    | exact ⟨_, rfl, fun hh => (by cases hh), fun h => (by exfalso; subst h; omega)⟩
    | exact ⟨_, rfl, fun hh => (by cases hh), fun h => absurd (show l.getD i default = l'.getD i default by rw [h]) (by assumption)⟩
    | exact ⟨_, rfl, fun _ => list_same (by omega) fun j hj => hp j (by omega), fun _ => rfl⟩
set_option maxHeartbeats 4000000 in
theorem RCopy_ok (lo : Nat)  : ∀ (t : Et) {Z : Vw} (_ : Tr Z t) (_ : t.er.size ≤ 1000000), CallP F lo 29 [.agg ⟨t.cs⟩] Z fun r Z' => ∃ t' : Et, r = .agg ⟨t'.cs⟩ ∧ Tr Z' t' ∧ t'.er = t.er := by
  intro t
  induction t using Et.ind with
  | h op n c v ks ih =>
  intro Z ht hs
  rw [Tr_mk] at ht
  obtain ⟨⟨hf, hlen⟩, hk⟩ := ht
  have hEl : (ks.map Et.er).length = ks.length := List.length_map _
  rw [sizeT_mk] at hs
  have hkl : ks.length ≤ 1000000 := by have := Ex.len_le (ks.map Et.er); rw [hEl] at this; omega
  simp only [Et.cs]
  refine FnP (fn := c29) rfl rfl rfl ?_
  (refine W_seq ?_; (refine W_rgn ?_; ((refine Ra rfl (xBox rfl (fun b1 => ?_))) <;> (refine Ra rfl (X_alloc (fun b2 => ?_))) <;> (refine R_nil ?_))) <;> ((refine thenQ_nrm ?_; (refine W_seq ?_; (refine W_rgn ?_; ((refine Ra rfl (X_faddr rfl ?_)) <;> (refine Ra rfl (X_load (lB rfl rfl) ?_)) <;> (refine Ra rfl (X_faddr rfl ?_)) <;> (refine Ra rfl (X_load (lB rfl rfl) ?_)) <;> (refine Ra rfl (X_faddr rfl ?_)) <;> (refine Ra rfl (X_load (lB rfl rfl) ?_)) <;> (refine Ra rfl (X_buildC (pCons rfl (pCons rfl (pCons rfl Parts.nil))) rfl ?_)) <;> (refine Ra rfl (X_alloc (fun b3 => ?_))) <;> (refine Rn (xSW rfl rfl rfl rfl ?_)) <;> (refine R_nil ?_))) <;> ((refine thenQ_nrm ?_; (refine W_seq ?_; (refine W_seq ?_; (refine W_rgn ?_; ((refine Ra rfl (X_mv rfl ?_)) <;> (refine R_nil ?_))) <;> ((refine thenQ_nrm ?_; (refine W_block ?_; ((
      refine wLoop (fun (p : Nat × Value × List Et) => match p with | (i, vl, ts) => [(4, .int .i64 i)]) (fun p => match p with | (i, vl, ts) => [.box b3 [.int .i64 op, .int .i64 n, .int .i64 c, vl], .box b2 [.int .i64 0, .int .i64 0, .int .i64 0, .slice none 0 0], .box b1 [.int .i64 op, .int .i64 n, .int .i64 c, v], .gro vl 4 (ts.map Et.cs)]) (fun p Zi => match p with | (i, vl, ts) => i ≤ ks.length ∧ ts.length = i ∧ (∀ a ∈ ts, Tr Zi a) ∧ ts.map Et.er = (ks.map Et.er).take i) (fun p => match p with | (i, _, _) => ks.length - i) (0, .slice none 0 0, []) (by repeat' (first | exact trivial | exact rfl | constructor)) (Upd.gro0 (e := 4) (by decide) (Upd.done ⟨⟨Nat.zero_le _, rfl, fun a ha => absurd ha (by simp), by simp⟩, (hB rfl (hB rfl (hB rfl (hG rfl Has.nil))))⟩)) ?_
      rintro ⟨i, vl, ts⟩ Z1 hz1 hp
      obtain ⟨hi, htl, htt, hte⟩ : i ≤ ks.length ∧ ts.length = i ∧ (∀ a ∈ ts, Tr Z1 a) ∧ ts.map Et.er = (ks.map Et.er).take i := hp
      have hsk : i < ks.length → (ks.getD i default).er.size ≤ 1000000 := fun h => (by have := sizeT_get h; omega)) <;> (refine W_seq ?_; (refine W_seq ?_; (refine W_rgn ?_; ((refine Ra rfl (X_mv rfl ?_)) <;> (refine Ra rfl (X_faddr rfl ?_)) <;> (refine Ra rfl (X_load (lB rfl rfl) ?_)) <;> (refine Ra rfl (xLen rfl ?_)) <;> (refine Ra rfl (X_lss rfl rfl (fun _ => ?_) (fun _ => ?_))) <;> (refine R_nil ?_))) <;> ((refine thenQ_nrm ?_; (refine W_cond rfl (fun ht => ?_) (fun ht => ?_) <;> (first | exact absurd ht (by decide) | (refine W_skip ?_) | (refine W_exit ?_)))))) <;> (first | refine thenQ_ext ?_ | (refine thenQ_nrm ?_; (refine W_seq ?_; (refine W_block ?_; (refine W_drw ?_; ((refine Da rfl rfl (X_faddr rfl ?_)) <;> (refine Da rfl rfl (X_load (lB rfl rfl) ?_)) <;> (refine Da rfl rfl (X_faddr rfl ?_)) <;> (refine Da rfl rfl (X_load (lB rfl rfl) ?_)) <;> (refine Da rfl rfl (X_mv rfl ?_)) <;> (refine Da rfl rfl (xIa rfl rfl (by omega) (by omega) ?_)) <;> (refine Da rfl rfl (X_load (lEA rfl (by omega)) ?_)) <;> (refine D_consR rfl (S_do rfl (xP (ih _ (getD_in (by omega)) (Tr.le ZC.le (hk _ (getD_in (by omega)))) (hsk (by omega))) rfl (fun r26 Z26 hz26 hq => ⟨(by (refine rDo rfl rfl (lB rfl rfl) ?_); exact Rck_nil), ?_⟩))); (obtain ⟨⟨o9, n9, c9, v9, ks9⟩, rfl, ht9, he9⟩ := hq)) <;> (refine Da rfl rfl (X_bsliceC (pCons rfl Parts.nil) rfl rfl rfl (fun v27 => ?_))) <;> (refine Da rfl rfl (xApGm (fe := Et.cs) (.mk o9 n9 c9 v9 ks9) rfl rfl rfl (by omega) (fun v28 => ?_))) <;> (refine Da rfl rfl (X_faddr rfl ?_)) <;> (refine Dn rfl (xSB rfl rfl rfl rfl rfl ?_)) <;> (refine D_nil ?_))) <;> (refine blockQ_nrm ?_)) <;> ((refine thenQ_nrm ?_; (refine W_rgn ?_; ((refine Ra rfl (X_mv rfl ?_)) <;> (refine Ra rfl (X_addI rfl rfl (by omega) (by omega) ?_)) <;> (refine Ra rfl (X_mv rfl ?_)) <;> (refine R_nil ?_))))))))) <;> (first | refine thenQ_ext ?_ | (refine thenQ_nrm ?_; (
        refine Upd.done ⟨(i + 1, _, ts ++ [.mk o9 n9 c9 v9 ks9]), ?_, ⟨?_, ?_, ?_, ?_⟩, (by repeat' (first | exact trivial | exact rfl | constructor)), (hB rfl (hB rfl (hB rfl (hG rfl Has.nil))))⟩
        · show ks.length - (i + 1) < ks.length - i
          omega
        · show i + 1 ≤ ks.length
          omega
        · rw [List.length_append, htl]; rfl
        · intro a ha
          rcases List.mem_append.1 ha with h | h
          · exact (htt a h).le ZC.le
          · rw [List.mem_singleton.1 h]; exact ht9.le ZC.le
        · rw [List.map_append, hte, take_snoc (by rw [hEl]; omega), map_get (by omega)]
          show _ ++ [(Et.mk o9 n9 c9 v9 ks9).er] = _
          rw [he9])))) <;> (refine blockQ_ext ?_))))) <;> ((refine thenQ_nrm ?_; (refine W_seq ?_; (refine W_rgn ?_; ((refine Ra rfl (X_load (lBA rfl rfl) ?_)) <;> (refine Rn (xSW rfl rfl rfl rfl ?_)) <;> (refine R_nil ?_))) <;> ((refine thenQ_nrm ?_; (refine W_ret ?_)))))))))))))
  <;> (refine fn_ret (rA rfl rfl Res.nil) ?_)
  all_goals
    have hi2 : i = ks.length := by omega
    subst hi2
    dsimp only [tupled]
    refine uG vl fun Za hza hfa => Upd.nil ⟨rfl, .mk op n c vl ts, rfl, ?_, ?_⟩
    · exact Tr_mk.2 ⟨⟨hfa, by omega⟩, fun a ha => (htt a ha).le ZC.le⟩
    · rw [Et.er_mk, Et.er_mk, hte, List.take_of_length_le (by rw [hEl]; exact Nat.le_refl _)]
end Go.Proofs.Ytlidnionbofkaaa.Hm.V
