import Derived.Test.YtbjgnogcjglcoaaHF
import Derived.Test.YtbjgnogcjglcoaaA6
import Derived.Test.YtbjgnogcjglcoaaVD6
namespace Go.Proofs.Ytbjgnogcjglcoaa.Hm.V
open Go
set_option linter.all false
set_option maxRecDepth 100000
attribute [local irreducible] X S R D W Call Upd Rds Rck Sees Res Cel CallP fnQ
section
variable {F : Nat → Option HFn} {lo N : Nat} {A : Tab} {Z : Vw} {O : List Pt} {K : Value → Vw → List Pt → Prop} {a y : Operand} {v w : Value} {f : Pt → List Pt} {g : List Pt}
end
section
variable {F : Nat → Option HFn} {lo N : Nat} {A : Tab} {Z : Vw} {O : List Pt} {K : Value → Vw → List Pt → Prop} {v : Value} {f : Pt → List Pt} {g : List Pt}
theorem x1Gs {args : List Operand} {k e : Nat} {xs : List (List Value)} {vs : List Value} {P : Value → Vw → Prop} [t : AtG O v e xs f g] (hc : Call1 F lo k vs Z (.gro v e xs) fun r Z' o' => o' = .gro v e xs ∧ P r Z') (ha : evsA A args = some vs) (kk : ∀ r Z', ZL Z Z' → P r Z' → K r Z' (.gro v e xs :: g)) : X F lo (.call (.func k) args) N A Z O K :=
  x1G hc ha fun r Z' o' hz hp => by
    obtain ⟨rfl, hp⟩ := hp
    exact kk r Z' hz hp
end
structure AuR where
  a : Au
  vs : Value
  ve : Value
  vg : Value
instance : Inhabited AuR := ⟨⟨⟨0, 0, [], [], []⟩, undef, undef, undef⟩⟩
def AuR.c (r : AuR) : List Value := [.int .i64 r.a.S, .int .i64 r.a.L, r.vs, r.ve, r.vg]
structure okL (a : Au) : Prop where
  l0 : 1 ≤ a.L
  l1 : a.L ≤ 1024
  st : inSt a.st
  en : inSt a.en
  ed : inEd a.ed
theorem okL.of {a : Au} (h : isAutoP a) : okL a := ⟨h.2.2.1, h.2.2.2.1, isAuto_st h, isAuto_en h, isAuto_ed h⟩
structure AuRZ (Z : Vw) (r : AuR) : Prop where
  s : Ints Z r.vs r.a.st
  e : Ints Z r.ve r.a.en
  g : Eds Z r.vg r.a.ed
  q1 : r.a.st.length < 9223372036854775808
  q2 : r.a.en.length < 9223372036854775808
  q3 : r.a.ed.length < 9223372036854775808
  ok : okL r.a
def lets (L : Int) (w : List Int) : Prop := ∀ c ∈ w, 0 ≤ c ∧ c < L
theorem runW_snoc (a : Au) (w : List Int) (c : Int) : runW a (w ++ [c]) = stepTo a.ed (runW a w) c := by unfold runW; rw [List.foldl_append]; rfl
end Go.Proofs.Ytbjgnogcjglcoaa.Hm.V
