import Derived.Test.YtlidnionbofkaaaHF
import Derived.Test.YtlidnionbofkaaaA6
import Derived.Test.YtlidnionbofkaaaVX0
namespace Go.Proofs.Ytlidnionbofkaaa.Hm.V
open Go
set_option linter.all false
set_option maxRecDepth 100000
attribute [local irreducible] X XG S R D W Call CallG Upd Rds Rck Sees Res Cel CallP fnQ fnG
inductive Ex where
  | mk (op n c : Int) (ks : List Ex)
instance : Inhabited Ex := ⟨.mk 0 0 0 []⟩
theorem Ex.ind {p : Ex → Prop} (h : ∀ op n c ks, (∀ a ∈ ks, p a) → p (.mk op n c ks)) : ∀ t, p t
  | .mk op n c ks => h op n c ks fun a _ha => Ex.ind h a
termination_by t => SizeOf.sizeOf t
decreasing_by
  have := List.sizeOf_lt_of_mem _ha
  simp
  omega
mutual
def Ex.size : Ex → Nat
  | .mk _ _ _ ks => 1 + Ex.sizeL ks
def Ex.sizeL : List Ex → Nat
  | [] => 0
  | a :: ks => a.size + Ex.sizeL ks
end
mutual
def Ex.depth : Ex → Nat
  | .mk _ _ _ ks => 1 + Ex.depthL ks
def Ex.depthL : List Ex → Nat
  | [] => 0
  | a :: ks => max a.depth (Ex.depthL ks)
end
theorem Ex.sizeL_app (a b : List Ex) : Ex.sizeL (a ++ b) = Ex.sizeL a + Ex.sizeL b := by
  induction a with
  | nil => simp [Ex.sizeL]
  | cons x a ih => simp [Ex.sizeL, ih] <;> omega
theorem Ex.depthL_app (a b : List Ex) : Ex.depthL (a ++ b) = max (Ex.depthL a) (Ex.depthL b) := by
  induction a with
  | nil => simp [Ex.depthL]
  | cons x a ih => simp [Ex.depthL, ih] <;> omega
theorem take_snoc {α : Type} [Inhabited α] {l : List α} {i : Nat} (h : i < l.length) : l.take (i + 1) = l.take i ++ [l.getD i default] := by
  rw [List.take_succ, List.getElem?_eq_getElem h, getD_eq h]; rfl
theorem Ex.sizeL_take {ks : List Ex} {i : Nat} (h : i < ks.length) : Ex.sizeL (ks.take (i + 1)) = Ex.sizeL (ks.take i) + (ks.getD i default).size := by
  rw [take_snoc h, Ex.sizeL_app]; simp [Ex.sizeL]
theorem Ex.depthL_take {ks : List Ex} {i : Nat} (h : i < ks.length) : Ex.depthL (ks.take (i + 1)) = max (Ex.depthL (ks.take i)) (ks.getD i default).depth := by
  rw [take_snoc h, Ex.depthL_app]; simp [Ex.depthL]
theorem Ex.sizeL_le {ks : List Ex} : ∀ {i : Nat}, Ex.sizeL (ks.take i) ≤ Ex.sizeL ks := by
  intro i
  have := Ex.sizeL_app (ks.take i) (ks.drop i)
  rw [List.take_append_drop] at this
  omega
theorem Ex.depthL_le {ks : List Ex} {i : Nat} : Ex.depthL (ks.take i) ≤ Ex.depthL ks := by
  have := Ex.depthL_app (ks.take i) (ks.drop i)
  rw [List.take_append_drop] at this
  omega
theorem Ex.size_get {ks : List Ex} {i : Nat} (h : i < ks.length) : (ks.getD i default).size ≤ Ex.sizeL ks := by
  have h1 := Ex.sizeL_take h
  have h2 := Ex.sizeL_le (ks := ks) (i := i + 1)
  omega
theorem Ex.depth_get {ks : List Ex} {i : Nat} (h : i < ks.length) : (ks.getD i default).depth ≤ Ex.depthL ks := by
  have h1 := Ex.depthL_take h
  have h2 := Ex.depthL_le (ks := ks) (i := i + 1)
  omega
def argsN (op : Int) : Int := if op = 0 then 0 else if op = 12 then 1 else if op = 15 then 3 else if IsOp op then 2 else -1
def nodeP (w : Int) (vs : List Vr) (k op n c : Int) (m : Nat) : Prop :=
  if op = 1 then 0 ≤ n ∧ n < vs.length ∧ 0 ≤ c ∧ c < k ∧ (m : Int) = (if 1 < (vs.getD n.toNat default).cs then 1 else 0)
  else c = 0 ∧ (m : Int) = argsN op ∧ (if op = 0 then widP w ∧ wrdP w n else n = 0)
mutual
def formE (w : Int) (vs : List Vr) (k : Int) : Ex → Prop
  | .mk op n c ks => nodeP w vs k op n c ks.length ∧ formL w vs k ks
def formL (w : Int) (vs : List Vr) (k : Int) : List Ex → Prop
  | [] => True
  | a :: ks => formE w vs k a ∧ formL w vs k ks
end
theorem formL_iff {w : Int} {vs : List Vr} {k : Int} : ∀ {ks : List Ex}, formL w vs k ks ↔ ∀ i, i < ks.length → formE w vs k (ks.getD i default)
  | [] => by simp [formL]
  | a :: ks => by
    rw [formL, formL_iff (ks := ks)]
    constructor
    · rintro ⟨h1, h2⟩ i hi
      cases i with
      | zero => exact h1
      | succ i => exact h2 i (by simpa using hi)
    · exact fun h => ⟨h 0 (by simp), fun i hi => h (i + 1) (by simpa using hi)⟩
theorem formE_mk {w : Int} {vs : List Vr} {k op n c : Int} {ks : List Ex} : formE w vs k (.mk op n c ks) ↔ nodeP w vs k op n c ks.length ∧ ∀ i, i < ks.length → formE w vs k (ks.getD i default) := by
  rw [formE, formL_iff]
def isE (w : Int) (vs : List Vr) (k : Int) (e : Ex) : Prop := e.size ≤ 400 ∧ e.depth ≤ 16 ∧ formE w vs k e
def nodeV (w : Int) (vs : List Vr) (sts : List (List Int)) (op n c : Int) (l : List Int) : Int :=
  if op = 0 then n
  else if op = 1 then (sts.getD c.toNat default).getD (firstV vs n.toNat + (if l.length = 0 then 0 else l.getD 0 default % (vs.getD n.toNat default).cs)).toNat default
  else if op = 12 then 2 ^ w.toNat - 1 - l.getD 0 default
  else if op = 15 then (if l.getD 0 default = 0 then l.getD 2 default else l.getD 1 default)
  else doW op w (l.getD 0 default) (l.getD 1 default)
mutual
def valE (w : Int) (vs : List Vr) (sts : List (List Int)) : Ex → Int
  | .mk op n c ks => nodeV w vs sts op n c (valL w vs sts ks)
def valL (w : Int) (vs : List Vr) (sts : List (List Int)) : List Ex → List Int
  | [] => []
  | a :: ks => valE w vs sts a :: valL w vs sts ks
end
theorem map_get {α β : Type} [Inhabited α] [Inhabited β] {f : α → β} {l : List α} {i : Nat} (h : i < l.length) : (l.map f).getD i default = f (l.getD i default) := by
  rw [getD_eq (by simpa using h), getD_eq h, List.getElem_map]
mutual
def evsE (w : Int) (vs : List Vr) (sts : List (List Int)) : Ex → List (Int × Int)
  | .mk op n c ks => evsL w vs sts ks ++ (if op = 1 ∧ 0 < ks.length then [(n, (valL w vs sts ks).getD 0 default % (vs.getD n.toNat default).cs)] else [])
def evsL (w : Int) (vs : List Vr) (sts : List (List Int)) : List Ex → List (Int × Int)
  | [] => []
  | a :: ks => evsE w vs sts a ++ evsL w vs sts ks
end
mutual
def Ex.mov (cp : Int) : Ex → Ex
  | .mk op n _ ks => .mk op n (if op = 1 then cp else 0) (Ex.movL cp ks)
def Ex.movL (cp : Int) : List Ex → List Ex
  | [] => []
  | a :: ks => a.mov cp :: Ex.movL cp ks
end
mutual
def arrE : Ex → Nat
  | .mk op _ _ ks => (if op = 1 ∧ 0 < ks.length then 1 else 0) + arrL ks
def arrL : List Ex → Nat
  | [] => 0
  | a :: ks => arrE a + arrL ks
end
inductive Et where
  | mk (op n c : Int) (v : Value) (ks : List Et)
instance : Inhabited Et := ⟨.mk 0 0 0 (.slice none 0 0) []⟩
theorem Et.ind {p : Et → Prop} (h : ∀ op n c v ks, (∀ a ∈ ks, p a) → p (.mk op n c v ks)) : ∀ t, p t
  | .mk op n c v ks => h op n c v ks fun a _ha => Et.ind h a
termination_by t => SizeOf.sizeOf t
decreasing_by
  have := List.sizeOf_lt_of_mem _ha
  simp
  omega
def Et.cs : Et → List Value
  | .mk op n c v _ => [.int .i64 op, .int .i64 n, .int .i64 c, v]
theorem Et.b4 (t : Et) : Nat.beq t.cs.length 4 = true := by cases t; rfl
mutual
def Et.er : Et → Ex
  | .mk op n c _ ks => .mk op n c (Et.erL ks)
def Et.erL : List Et → List Ex
  | [] => []
  | a :: ks => a.er :: Et.erL ks
end
theorem Et.erL_eq : ∀ {ks : List Et}, Et.erL ks = ks.map Et.er
  | [] => rfl
  | a :: ks => by rw [Et.erL, Et.erL_eq]; rfl
theorem Et.er_mk {op n c : Int} {v : Value} {ks : List Et} : (Et.mk op n c v ks).er = .mk op n c (ks.map Et.er) := by rw [Et.er, Et.erL_eq]
mutual
def Tr (Z : Vw) : Et → Prop
  | .mk _ _ _ v ks => (Fz Z 4 v (ks.map Et.cs) ∧ ks.length < 9223372036854775808) ∧ TrL Z ks
def TrL (Z : Vw) : List Et → Prop
  | [] => True
  | a :: ks => Tr Z a ∧ TrL Z ks
end
theorem TrL_iff {Z : Vw} : ∀ {ks : List Et}, TrL Z ks ↔ ∀ a ∈ ks, Tr Z a
  | [] => by simp [TrL]
  | a :: ks => by rw [TrL, TrL_iff]; simp
theorem Tr_mk {Z : Vw} {op n c : Int} {v : Value} {ks : List Et} : Tr Z (.mk op n c v ks) ↔ (Fz Z 4 v (ks.map Et.cs) ∧ ks.length < 9223372036854775808) ∧ ∀ a ∈ ks, Tr Z a := by rw [Tr, TrL_iff]
theorem getD_in {α : Type} [Inhabited α] {l : List α} {i : Nat} (h : i < l.length) : l.getD i default ∈ l := by rw [getD_eq h]; exact List.getElem_mem h
theorem Tr.le {Z Z' : Vw} (hz : Z.le Z') : ∀ {t : Et}, Tr Z t → Tr Z' t := by
  intro t
  induction t using Et.ind with
  | h op n c v ks ih =>
    rw [Tr_mk, Tr_mk]
    exact fun h => ⟨⟨h.1.1.le hz, h.1.2⟩, fun a ha => ih a ha (h.2 a ha)⟩
instance SL.tree {Z : Vw} {O : List Pt} {op n c : Int} {v : Value} {ks : List Et} [k : SL Z O [.int .i64 op, .int .i64 n, .int .i64 c, v]] : SL Z O (Et.cs (.mk op n c v ks)) := ⟨k.out⟩
structure Rw where
  v : Value
  l : List Int
instance : Inhabited Rw := ⟨⟨.slice none 0 0, []⟩⟩
def Rw.c (r : Rw) : List Value := [r.v]
def RwOK (Z : Vw) (rs : List Rw) : Prop := ∀ i, i < rs.length → Fz Z 1 (rs.getD i default).v ((rs.getD i default).l.map cI) ∧ (rs.getD i default).l.length < 9223372036854775808
theorem RwOK.le {Z Z' : Vw} {rs : List Rw} (h : RwOK Z rs) (hz : Z.le Z') : RwOK Z' rs := fun i hi => ⟨(h i hi).1.le hz, (h i hi).2⟩
end Go.Proofs.Ytlidnionbofkaaa.Hm.V
