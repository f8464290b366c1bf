/- A call that is handed nothing: H's run of it over the empty heap is the machine's, in whatever memory. -/
import Derived.Test.YtbjgnogcjglcoaaHZf
namespace Go.Proofs.Ytbjgnogcjglcoaa.Hm
open Go Go.RowKit
set_option linter.all false
theorem get0 (b : Nat) : heap0.get b = none := by simp [Heap.get, heap0]
theorem Inv.empty (w : World) : Inv 0 w.heap.size w (fun _ => none) heap0 w where
  below := Below.refl _ _
  n0le := Nat.le_refl _
  lon := Nat.le_refl _
  dom := fun b r s e => by cases e
  new := fun b r s e => by cases e
  row := fun b r s cs e => by cases e
  map := fun b r s es t e => by cases e
  sep := fun b b' r s s' e => by cases e
  tip := fun b b' c cs cs' fl r s s' e => by rw [get0] at e; cases e
  clt := fun b cs c t fl e => by rw [get0] at e; cases e
  clm := fun b cs c e => by rw [get0] at e; cases e
/-- The run of a function that is handed nothing gives this bool. -/
def tells (F : Nat → Option HFn) (n k : Nat) (b : Bool) : Bool := match hcall F 0 n k [] heap0 with
  | some (.bool c, _) => c == b
  | _ => false
theorem calls_closed {P : Program} {F : Nat → Option HFn} (hF : FOK P F) (hmix : P.follows .mixedOrders = true) {n k : Nat} {b : Bool} (hc : tells F n k b = true) (w : World) :
    Calls P k #[] w fun e w' => e = .returned (.bool b) ∧ Below w.heap.size w w' := by
  unfold tells at hc
  split at hc
  · rename_i c h' he
    have : c = b := by simpa using hc
    subst this
    refine (calls_h hF hmix he (Inv.empty w) (.nil _ _)).mono fun e w' hp => ?_
    obtain ⟨v', ρ', rfl, k1, k2, k3⟩ := hp
    exact ⟨by rw [VR.bool_inv k3], k1.below⟩
  · cases hc
/-- A function that is handed nothing and is known to give true: H need not run it. -/
def primTrue : Nat → List Value → Heap → Option (Value × Heap) := fun _ vs h => if vs.isEmpty then some (.bool true, h) else none
def fnTrue : HFn := { ntmps := 0, res := [], body := .skip, prim := some primTrue }
theorem primTrue_ok {P : Program} {k : Nat} {hf : HFn} (hc : compFn P k = some hf) (haw : ∀ w : World, Calls P k #[] w fun e w' => e = .returned (.bool true) ∧ Below w.heap.size w w') : PrimOK P k primTrue := by
  intro lo n0 w0 f vs h v h' hp ρ w args hI hV
  dsimp only at hp
  split at hp
  · rename_i hk
    subst hk
    unfold primTrue at hp
    split at hp
    · rename_i he
      cases hp
      have hvs : vs = [] := by simpa using he
      subst hvs
      have hargs : args = #[] := by
        have := hV.1
        apply Array.toList_inj.1
        exact List.length_eq_zero_iff.1 (by rw [← this]; rfl)
      subst hargs
      obtain ⟨fn, c, h1, h2, h3, _⟩ := compFn_inv hc
      refine ⟨callFunc_enter h1 h2 h3 _ w, (haw w).mono fun e w' hq => ?_⟩
      obtain ⟨rfl, hb⟩ := hq
      have hsame : ∀ r, r < w.heap.size → w'.heap[r]? = w.heap[r]? := fun r hr => hb.block r hr
      have hsz : ∀ r, rowSize w r ≤ rowSize w' r := fun r => by
        unfold rowSize
        by_cases hr : r < w.heap.size
        · rw [hsame r hr]; exact Nat.le_refl _
        · rw [Array.getElem?_eq_none (Nat.le_of_not_lt hr)]; exact Nat.zero_le _
      have hn0 : n0 ≤ w.heap.size := Nat.le_trans hI.n0le hI.below.size
      exact ⟨.bool true, ρ, rfl, hI.world (hb.mono hn0) (fun b r s e => hsame r (hI.dom b r s e).2) hsz, ⟨fun _ _ e => e, hsz, Nat.le_refl _, fun _ _ e => ⟨e, rfl⟩⟩, .bool true⟩
    · cases hp
  · cases hp
end Go.Proofs.Ytbjgnogcjglcoaa.Hm
