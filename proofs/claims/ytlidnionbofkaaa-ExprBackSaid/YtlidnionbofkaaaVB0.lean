import Derived.Test.YtlidnionbofkaaaHF
import Derived.Test.YtlidnionbofkaaaA6
import Derived.Test.YtlidnionbofkaaaVQ2
import Derived.Test.YtlidnionbofkaaaVE8
namespace Go.Proofs.Ytlidnionbofkaaa.Hm.V
open Go
set_option linter.all false
set_option maxRecDepth 100000
attribute [local irreducible] X XG S R D W Call CallG Upd Rds Rck Sees Res Cel CallP fnQ fnG
def digF : Nat → Nat → List UInt8
  | 0, n => []
  | m + 1, n => if n < 10 then [UInt8.ofNat (48 + n)] else digF m (n / 10) ++ [UInt8.ofNat (48 + n % 10)]
def digW (n : Nat) : Tok := digF 256 n
theorem digF_len : ∀ m n, (digF m n).length ≤ m
  | 0, n => by simp [digF]
  | m + 1, n => by
    rw [digF]
    split
    · simp
    · have := digF_len m (n / 10)
      rw [List.length_append, List.length_singleton]; omega
theorem dig_all : ∀ n : Fin 256, isNum (digW n.val) = true ∧ numP (digW n.val) = (n.val : Int) ∧ (digW n.val).length ≤ 3 ∧ (digW n.val = [48] ∨ ((!decide (((digW n.val).getD 0 default).toNat = 48)) && (digW n.val).all isDig) = true) := by decide +kernel
theorem enc_dig : ∀ i : Fin 10, Utf8.encode ((48 + i.val : Nat) : Int) = ⟨⟨[UInt8.ofNat (48 + i.val)]⟩⟩ := by decide +kernel
theorem wrap_i32 {x : Int} (h0 : 0 ≤ x) (h1 : x < 1000) : IntKind.i32.wrap x = x := by
  unfold IntKind.wrap
  simp [IntKind.bits, IntKind.signed]
  omega
section
variable {F : Nat → Option HFn} {lo N : Nat} {A : Tab} {Z : Vw} {O : List Pt} {K : Value → Vw → List Pt → Prop}
unseal Rds in
theorem X_runeD {x : Operand} {k : IntKind} {n : Int} (i : Nat) (hx : evA A x = some (.int k n)) (hn : n = ((48 + i : Nat) : Int)) (hi : i < 10) (kk : K (.string ⟨⟨[UInt8.ofNat (48 + i)]⟩⟩) Z O) : X F lo (.runeS x) N A Z O K :=
  X_rds (v := .string ⟨⟨[UInt8.ofNat (48 + i)]⟩⟩) (by simp) (fun R σ h hs m => by
    simp only [xop, xopE, evA_ok hs hx]
    rw [hn, enc_dig ⟨i, hi⟩]) kk
theorem bin_addL (a b : List UInt8) (h : a.length + b.length < 4611686018427387904) : bin .add (.string ⟨⟨a⟩⟩) (.string ⟨⟨b⟩⟩) = some (.string ⟨⟨a ++ b⟩⟩) := by
  show pureRun (Op.stringOp .add _ _) = _
  unfold Op.stringOp
  have h2 : ¬ ((((⟨⟨a⟩⟩ : ByteArray).size + (⟨⟨b⟩⟩ : ByteArray).size : Nat) : Int) > IntKind.i64.max) := by
    have : IntKind.i64.max = 9223372036854775807 := by decide
    have e1 : (⟨⟨a⟩⟩ : ByteArray).size = a.length := rfl
    have e2 : (⟨⟨b⟩⟩ : ByteArray).size = b.length := rfl
    omega
  dsimp only
  rw [if_neg h2]
  have e : (⟨⟨a⟩⟩ ++ ⟨⟨b⟩⟩ : ByteArray) = ⟨⟨a ++ b⟩⟩ := by
    apply ByteArray.ext
    rw [ByteArray.data_append]
    simp
  rw [e]
  rfl
theorem xAddL {x y : Operand} {a b : List UInt8} (hx : evA A x = some (.string ⟨⟨a⟩⟩)) (hy : evA A y = some (.string ⟨⟨b⟩⟩)) (h : a.length + b.length < 4611686018427387904) (k : K (.string ⟨⟨a ++ b⟩⟩) Z O) : X F lo (.bin .add x y) N A Z O K := X_bin hx hy (bin_addL a b h) k
end
theorem nodeP_arity {w : Int} {vs : List Vr} {k op n c : Int} {m : Nat} (h : nodeP w vs k op n c m) : m ≤ 3 ∧ (op = 0 → m = 0) ∧ (op = 1 → m ≤ 1 ∧ 0 ≤ n ∧ n < vs.length ∧ 0 ≤ c ∧ c < k) ∧ (op = 12 → m = 1) ∧ (op = 15 → m = 3) ∧ (op ≠ 0 → op ≠ 1 → op ≠ 12 → op ≠ 15 → m = 2 ∧ IsOp op) := by
  by_cases h0 : op = 0
  · have := (nodeP_0 h0).1 h; exact ⟨by omega, fun _ => by omega, fun _ => by omega, fun _ => by omega, fun _ => by omega, fun h => absurd h0 h⟩
  by_cases h1 : op = 1
  · obtain ⟨e1, e2, e3, e4, e5⟩ := (nodeP_1 h1).1 h
    have : m ≤ 1 := by split at e5 <;> omega
    exact ⟨by omega, fun _ => by omega, fun _ => ⟨this, e1, e2, e3, e4⟩, fun _ => by omega, fun _ => by omega, fun _ h => absurd h1 h⟩
  by_cases h2 : op = 12
  · have := (nodeP_12 h2).1 h; exact ⟨by omega, fun _ => by omega, fun _ => by omega, fun _ => by omega, fun _ => by omega, fun _ _ h => absurd h2 h⟩
  by_cases h3 : op = 15
  · have := (nodeP_15 h3).1 h; exact ⟨by omega, fun _ => by omega, fun _ => by omega, fun _ => by omega, fun _ => by omega, fun _ _ _ h => absurd h3 h⟩
  by_cases h4 : IsOp op
  · have := (nodeP_2 h4).1 h; exact ⟨by omega, fun _ => by omega, fun _ => by omega, fun _ => by omega, fun _ => by omega, fun _ _ _ _ => ⟨by omega, h4⟩⟩
  · exact ((nodeP_no h4 h1 h0 h2 h3).1 h).elim
class SLo (l : List Value) : Prop where
  out : sameL l l = true
instance SLo.sl {Z : Vw} {O : List Pt} {l : List Value} [k : SLo l] : SL Z O l := ⟨fun _ _ _ _ => k.out⟩
theorem Tr.same {Z : Vw} {t : Et} (h : Tr Z t) : SLo t.cs := by
  obtain ⟨op, n, c, v, ks⟩ := t
  refine ⟨?_⟩
  obtain ⟨k2, _⟩ | ⟨b, o, s, cc, cs, k2, _⟩ := (Tr_mk.1 h).1.1.out
  · subst k2; simp [Et.cs, sameL, same0]
  · subst k2; simp [Et.cs, sameL, same0]
theorem kids_same {Z : Vw} {ks : List Et} (h : ∀ a ∈ ks, Tr Z a) (j : Nat) : SLo (ks.getD j default).cs := by
  by_cases hj : j < ks.length
  · exact (h _ (getD_in hj)).same
  · have : ks.getD j default = Et.z := by rw [List.getD_eq_getElem?_getD, List.getElem?_eq_none (by omega)]; rfl
    rw [this]
    exact (Tr.z Z).same
def prN (k : Int) (vs : List Vr) (op n c : Int) (l : List Tok) : Tok :=
  if op = 0 then digW n.toNat
  else if op = 1 then
    if 0 < l.length then (if 1 < k then (vs.getD n.toNat default).nm ++ ([64] ++ digW c.toNat) else (vs.getD n.toNat default).nm) ++ (([91] ++ l.getD 0 default) ++ [93])
    else (if 1 < k then (vs.getD n.toNat default).nm ++ ([64] ++ digW c.toNat) else (vs.getD n.toNat default).nm)
  else if op = 12 then [126] ++ l.getD 0 default
  else if op = 15 then ((((([40] ++ l.getD 0 default) ++ [32, 63, 32]) ++ l.getD 1 default) ++ [32, 58, 32]) ++ l.getD 2 default) ++ [41]
  else ((((([40] ++ l.getD 0 default) ++ [32]) ++ signV op) ++ [32]) ++ l.getD 1 default) ++ [41]
mutual
def prE (k : Int) (vs : List Vr) : Ex → Tok
  | .mk op n c ks => prN k vs op n c (prL k vs ks)
def prL (k : Int) (vs : List Vr) : List Ex → List Tok
  | [] => []
  | a :: ks => prE k vs a :: prL k vs ks
end
theorem prL_eq {k : Int} {vs : List Vr} : ∀ {ks : List Ex}, prL k vs ks = ks.map (prE k vs)
  | [] => rfl
  | a :: ks => by rw [prL, prL_eq]; rfl
theorem prE_mk {k : Int} {vs : List Vr} {op n c : Int} {ks : List Ex} : prE k vs (.mk op n c ks) = prN k vs op n c (ks.map (prE k vs)) := by rw [prE, prL_eq]
theorem prE_z (k : Int) (vs : List Vr) : (prE k vs Et.z.er).length ≤ 18000 := by
  rw [show Et.z.er = .mk 0 0 0 [] from rfl, prE_mk]
  unfold prN
  rw [if_pos rfl]
  exact Nat.le_trans (digF_len _ _) (by decide)
theorem sign_len (op : Int) : (signV op).length ≤ 2 := by
  unfold signV
  cases e : signL.find? fun p => decide (p.2 = op) with
  | none => simp
  | some p =>
    have hm := List.mem_of_find?_eq_some e
    have key : ∀ p ∈ signL, p.1.length ≤ 2 := by decide
    simpa using key p hm
theorem digW_3 {n : Nat} (h : n < 256) : (digW n).length ≤ 3 := (dig_all ⟨n, h⟩).2.2.1
theorem prE_len {w : Int} {vs : List Vr} {k : Int} (hw : widP w) (hk3 : k ≤ 3) (hnm : ∀ i, i < vs.length → (vs.getD i default).nm.length ≤ 12) : ∀ e : Ex, formE w vs k e → (prE k vs e).length ≤ 18 * e.size := by
  have hpw := pow_w hw.1 hw.2
  intro e
  induction e using Ex.ind with
  | h op n c ks ih =>
    rw [formE_mk, prE_mk, Ex.size]
    rintro ⟨hnd, hfk⟩
    obtain ⟨hn1, hn2, hn3, hn4, hn5, hn6⟩ := nodeP_arity hnd
    have hc : ∀ j, j < ks.length → ((ks.map (prE k vs)).getD j default).length ≤ 18 * (ks.getD j default).size := fun j hj => by
      rw [map_get hj]; exact ih _ (getD_in hj) (hfk j hj)
    have hy0 : Ex.sizeL (ks.take 0) = 0 := by rw [List.take_zero, Ex.sizeL]
    have hy1 : 0 < ks.length → Ex.sizeL (ks.take 1) = Ex.sizeL (ks.take 0) + (ks.getD 0 default).size := Ex.sizeL_take (i := 0)
    have hy2 : 1 < ks.length → Ex.sizeL (ks.take 2) = Ex.sizeL (ks.take 1) + (ks.getD 1 default).size := Ex.sizeL_take (i := 1)
    have hy3 : 2 < ks.length → Ex.sizeL (ks.take 3) = Ex.sizeL (ks.take 2) + (ks.getD 2 default).size := Ex.sizeL_take (i := 2)
    have hz1 : Ex.sizeL (ks.take 1) ≤ Ex.sizeL ks := Ex.sizeL_le
    have hz2 : Ex.sizeL (ks.take 2) ≤ Ex.sizeL ks := Ex.sizeL_le
    have hz3 : Ex.sizeL (ks.take 3) ≤ Ex.sizeL ks := Ex.sizeL_le
    have hc0 := hc 0
    have hc1 := hc 1
    have hc2 := hc 2
    have hsg := sign_len op
    have hml : (ks.map (prE k vs)).length = ks.length := List.length_map _
    unfold prN
    by_cases h0 : op = 0
    · rw [if_pos h0]
      have q := ((nodeP_0 h0).1 hnd).2.2.2
      unfold wrdP at q
      have := digW_3 (n := n.toNat) (by omega)
      omega
    rw [if_neg h0]
    by_cases h1 : op = 1
    · rw [if_pos h1]
      obtain ⟨_, q1, q2, q3, q4⟩ := hn3 h1
      have hd := digW_3 (n := c.toNat) (by omega)
      have hnn := hnm n.toNat (by omega)
      split <;> split <;> (try simp only [List.length_append, List.length_cons, List.length_nil]) <;> omega
    rw [if_neg h1]
    by_cases h2 : op = 12
    · rw [if_pos h2]
      have := hn4 h2
      simp only [List.length_append, List.length_cons, List.length_nil]; omega
    rw [if_neg h2]
    by_cases h3 : op = 15
    · rw [if_pos h3]
      have := hn5 h3
      simp only [List.length_append, List.length_cons, List.length_nil]; omega
    rw [if_neg h3]
    have := hn6 h0 h1 h2 h3
    simp only [List.length_append, List.length_cons, List.length_nil]; omega
end Go.Proofs.Ytlidnionbofkaaa.Hm.V
