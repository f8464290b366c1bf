/- Calls of values that are functions, parts lent that are known when they come back. -/
import Derived.Test.YtgaplmpopgdfbaaA6
namespace Go.Proofs.Ytgaplmpopgdfbaa.Hm.V
open Go
set_option linter.all false
section
variable {F : Nat → Option HFn} {lo N : Nat} {A : Tab} {Z : Vw} {O : List Pt} {K : Value → Vw → List Pt → Prop}
theorem xDe {fo : Operand} {args : List Operand} {k : Nat} {fs cs vs : List Value} {L L' r o : List Pt} {P : Value → Vw → Prop} (hf : evA A fo = some (.func (.func k) ⟨fs⟩ ⟨cs⟩)) (ha : evsA A args = some vs) (hc : Call F lo k ((fs ++ vs) ++ cs) Z L fun v Z' O' => O' = L' ∧ P v Z') (hp : Pick O L r) [al : AppL L' r o] (kk : ∀ v Z', ZL Z Z' → P v Z' → K v Z' o) : X F lo (.call fo args) N A Z O K :=
  X_call hf ha r (Pick.perm hp) (Call.mono hc fun v Z' O' hz hq => by
    obtain ⟨rfl, hq⟩ := hq
    rw [al.out]
    exact kk v Z' ⟨hz⟩ hq)
/-- .. that makes a growing slice, its answer. -/
theorem xDg {fo : Operand} {args : List Operand} {k e : Nat} {fs cs vs : List Value} {L r o : List Pt} {xs : List (List Value)} (hf : evA A fo = some (.func (.func k) ⟨fs⟩ ⟨cs⟩)) (ha : evsA A args = some vs) (hc : Call F lo k ((fs ++ vs) ++ cs) Z L fun v Z' O' => O' = .gro v e xs :: L) (hp : Pick O L r) [al : AppL L r o] (kk : ∀ v Z', ZL Z Z' → K v Z' (.gro v e xs :: o)) : X F lo (.call fo args) N A Z O K :=
  X_call hf ha r (Pick.perm hp) (Call.mono hc fun v Z' O' hz hq => by
    subst hq
    rw [List.cons_append, al.out]
    exact kk v Z' ⟨hz⟩)
end
end Go.Proofs.Ytgaplmpopgdfbaa.Hm.V
