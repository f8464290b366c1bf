import Derived.Test.YtbjgnogcjglcoaaHF
import Derived.Test.YtbjgnogcjglcoaaA6
import Derived.Test.YtbjgnogcjglcoaaVT4
namespace Go.Proofs.Ytbjgnogcjglcoaa.Hm.V
open Go
set_option linter.all false
set_option maxRecDepth 100000
attribute [local irreducible] X S R D W Call Upd Rds Rck Sees Res Cel CallP fnQ
def Tells (F : Nat → Option HFn) (lo k b : Nat) (cs : List Value) (Z : Vw) (bad : Int → Prop) : Prop := ∀ x Z', Z.le Z' → Call F lo k [.int .i64 x, .pointer (some ⟨b, 0, none⟩)] Z' [.box b cs] fun r _ O' => O' = [.box b cs] ∧ ∃ q, r = .bool q ∧ (q = true ↔ bad x)
theorem Tells.of {F : Nat → Option HFn} {lo k b : Nat} {cs : List Value} {Z : Vw} {bad : Int → Prop} (h : ∀ x Z', Call1 F lo k [.int .i64 x, .pointer (some ⟨b, 0, none⟩)] Z' (.box b cs) fun r _ o' => o' = .box b cs ∧ ∃ q, r = .bool q ∧ (q = true ↔ bad x)) : Tells F lo k b cs Z bad := fun x Z' _ => (h x Z').mono fun v Z2 O' _ hq => by
  obtain ⟨o', rfl, rfl, hq⟩ := hq
  exact ⟨rfl, hq⟩
end Go.Proofs.Ytbjgnogcjglcoaa.Hm.V
