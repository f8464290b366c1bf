import Derived.Test.YtlidnionbofkaaaHF
import Derived.Test.YtlidnionbofkaaaA6
import Derived.Test.YtlidnionbofkaaaVE0
namespace Go.Proofs.Ytlidnionbofkaaa.Hm.V
open Go
set_option linter.all false
set_option maxRecDepth 100000
attribute [local irreducible] X XG S R D W Call CallG Upd Rds Rck Sees Res Cel CallP fnQ fnG
structure Gl where
  w : Int
  vs : List Vr
  t : Et
def GlV (Z : Vw) (r : Value) (g : Gl) : Prop := ∃ vv op n c v ks, g.t = .mk op n c v ks ∧ r = .agg ⟨[.int .i64 g.w, vv, .int .i64 op, .int .i64 n, .int .i64 c, v]⟩ ∧ Vrs Z vv g.vs ∧ g.vs.length < 9223372036854775808 ∧ Tr Z g.t
theorem GlV.le {Z Z' : Vw} {r : Value} {g : Gl} (k : GlV Z r g) (hz : Z.le Z') : GlV Z' r g := by
  obtain ⟨vv, op, n, c, v, ks, e, rfl, h1, h2, h3⟩ := k
  exact ⟨vv, op, n, c, v, ks, e, rfl, h1.le hz, h2, h3.le hz⟩
theorem formT_mk {w : Int} {vs : List Vr} {k op n c : Int} {v : Value} {ks : List Et} : formE w vs k (Et.mk op n c v ks).er ↔ nodeP w vs k op n c ks.length ∧ ∀ i, i < ks.length → formE w vs k (ks.getD i default).er := by
  rw [Et.er_mk, formE_mk, List.length_map]
  constructor
  · rintro ⟨h1, h2⟩
    exact ⟨h1, fun i hi => by have := h2 i hi; rwa [map_get hi] at this⟩
  · rintro ⟨h1, h2⟩
    exact ⟨h1, fun i hi => by rw [map_get hi]; exact h2 i hi⟩
theorem nodeP_0 {w : Int} {vs : List Vr} {k op n c : Int} {m : Nat} (h : op = 0) : nodeP w vs k op n c m ↔ c = 0 ∧ (m : Int) = 0 ∧ widP w ∧ wrdP w n := by
  subst h
  unfold nodeP argsN
  rw [if_neg (by decide), if_pos rfl, if_pos rfl]
theorem nodeP_1 {w : Int} {vs : List Vr} {k op n c : Int} {m : Nat} (h : op = 1) : nodeP w vs k op n c m ↔ 0 ≤ n ∧ n < vs.length ∧ 0 ≤ c ∧ c < k ∧ (m : Int) = (if 1 < (vs.getD n.toNat default).cs then 1 else 0) := by
  subst h
  unfold nodeP
  rw [if_pos rfl]
theorem nodeP_12 {w : Int} {vs : List Vr} {k op n c : Int} {m : Nat} (h : op = 12) : nodeP w vs k op n c m ↔ c = 0 ∧ (m : Int) = 1 ∧ n = 0 := by
  subst h
  unfold nodeP argsN
  rw [if_neg (by decide), if_neg (by decide), if_pos rfl, if_neg (by decide)]
theorem nodeP_15 {w : Int} {vs : List Vr} {k op n c : Int} {m : Nat} (h : op = 15) : nodeP w vs k op n c m ↔ c = 0 ∧ (m : Int) = 3 ∧ n = 0 := by
  subst h
  unfold nodeP argsN
  rw [if_neg (by decide), if_neg (by decide), if_neg (by decide), if_pos rfl, if_neg (by decide)]
theorem nodeP_2 {w : Int} {vs : List Vr} {k op n c : Int} {m : Nat} (h : IsOp op) : nodeP w vs k op n c m ↔ c = 0 ∧ (m : Int) = 2 ∧ n = 0 := by
  unfold nodeP argsN
  have h2 := h
  unfold IsOp at h2
  rw [if_neg (by omega), if_neg (by omega), if_neg (by omega), if_neg (by omega), if_pos h, if_neg (by omega)]
theorem nodeP_no {w : Int} {vs : List Vr} {k op n c : Int} {m : Nat} (h : ¬ IsOp op) (h1 : op ≠ 1) (h0 : op ≠ 0) (h12 : op ≠ 12) (h15 : op ≠ 15) : nodeP w vs k op n c m ↔ False := by
  unfold nodeP argsN
  rw [if_neg h1, if_neg h0, if_neg h12, if_neg h15, if_neg h]
  constructor
  · rintro ⟨_, h, _⟩; omega
  · exact False.elim
theorem nodeP_n {w : Int} {vs : List Vr} {k op n c : Int} {m : Nat} (h1 : op ≠ 1) (h0 : op ≠ 0) (h : ¬ (n = 0 ∧ c = 0)) : nodeP w vs k op n c m ↔ False := by
  unfold nodeP
  rw [if_neg h1, if_neg h0]
  constructor
  · rintro ⟨h2, _, h3⟩; exact h ⟨h3, h2⟩
  · exact False.elim
theorem sizeT_mk {op n c : Int} {v : Value} {ks : List Et} : (Et.mk op n c v ks).er.size = 1 + Ex.sizeL (ks.map Et.er) := by rw [Et.er_mk, Ex.size]
theorem depthT_mk {op n c : Int} {v : Value} {ks : List Et} : (Et.mk op n c v ks).er.depth = 1 + Ex.depthL (ks.map Et.er) := by rw [Et.er_mk, Ex.depth]
theorem sizeT_take {ks : List Et} {i : Nat} (h : i < ks.length) : Ex.sizeL ((ks.map Et.er).take (i + 1)) = Ex.sizeL ((ks.map Et.er).take i) + (ks.getD i default).er.size := by
  rw [Ex.sizeL_take (by simpa using h), map_get h]
theorem depthT_take {ks : List Et} {i : Nat} (h : i < ks.length) : Ex.depthL ((ks.map Et.er).take (i + 1)) = max (Ex.depthL ((ks.map Et.er).take i)) (ks.getD i default).er.depth := by
  rw [Ex.depthL_take (by simpa using h), map_get h]
theorem sizeT_all {ks : List Et} : Ex.sizeL ((ks.map Et.er).take ks.length) = Ex.sizeL (ks.map Et.er) := by rw [List.take_of_length_le (by simp)]
theorem depthT_all {ks : List Et} : Ex.depthL ((ks.map Et.er).take ks.length) = Ex.depthL (ks.map Et.er) := by rw [List.take_of_length_le (by simp)]
theorem depthT_get {ks : List Et} {i : Nat} (h : i < ks.length) : (ks.getD i default).er.depth ≤ Ex.depthL (ks.map Et.er) := by
  have := Ex.depth_get (ks := ks.map Et.er) (i := i) (by simpa using h)
  rwa [map_get h] at this
end Go.Proofs.Ytlidnionbofkaaa.Hm.V
