/- One operation of the machine beside H's: operations that look at their operands alone, and those that read memory. -/
import Derived.Test.YtbjgnogcjglcoaaHM
namespace Go.Proofs.Ytbjgnogcjglcoaa.Hm
open Go Go.RowKit
set_option linter.all false
set_option linter.unusedSimpArgs false
/-- The machine's step gives what H's gives. -/
def Good (lo n0 : Nat) (w0 : World) (P : Program) (ρ : Rho) (h : Heap) (w : World) (s : Sem Next) (v : Value) (h' : Heap) : Prop :=
  ∃ v' w' ρ', (s.run P w = .ok (.value v') w' ∨ (s.run P w = .ok .skip w' ∧ v' = undef)) ∧ Inv lo n0 w0 ρ' h' w' ∧ Ext ρ ρ' h h' w w' ∧ VR ρ' w' v v'
section
variable {lo n0 : Nat} {w0 : World} {ρ : Rho} {h : Heap} {w : World} {P : Program}
theorem good_v {s : Sem Value} {v v' : Value} {h' : Heap} {w' : World} {ρ' : Rho} (hs : s.run P w = .ok v' w') (hI : Inv lo n0 w0 ρ' h' w') (hE : Ext ρ ρ' h h' w w') (hV : VR ρ' w' v v') :
    Good lo n0 w0 P ρ h w (do pure (.value (← s))) v h' := ⟨v', w', ρ', .inl (by simp [hs]), hI, hE, hV⟩
theorem good_p (hI : Inv lo n0 w0 ρ h w) {s : Sem Value} {v v' : Value} (hs : s.run P w = .ok v' w) (hV : VR ρ w v v') : Good lo n0 w0 P ρ h w (do pure (.value (← s))) v h :=
  good_v hs hI (Ext.refl _ _ _) hV
theorem good_u {s : Sem Unit} {h' : Heap} {w' : World} {ρ' : Rho} (hs : s.run P w = .ok () w') (hI : Inv lo n0 w0 ρ' h' w') (hE : Ext ρ ρ' h h' w w') :
    Good lo n0 w0 P ρ h w (do s; pure .skip) undef h' := ⟨undef, w', ρ', .inr ⟨by simp [hs], rfl⟩, hI, hE, VR.undef _ _⟩
/-! ### whole numbers, strings -/
theorem stringOp_val {op : BinOp} {a b : ByteArray} {v : Value} (e : pureRun (Op.stringOp op a b) = some v) : VR ρ w v v := by
  cases op <;> simp only [Op.stringOp] at e <;> first
    | (cases e; exact .bool _)
    | (cases e; done)
    | (split at e <;> cases e; exact .str _)
theorem good_bin {op : BinOp} {x y v x' y' : Value} (hx : VR ρ w x x') (hy : VR ρ w y y') (e : bin op x y = some v) (xt : TypeId) (ox oy : Operand) :
    (do eqGuard op xt ox oy x' y'; binOp op xt x' y').run P w = .ok v w ∧ VR ρ w v v := by
  have hg : ∀ {a b : Value}, (∀ cs, a ≠ .agg cs) → a ≠ .nilIface → (eqGuard op xt ox oy a b).run P w = .ok () w := by
    intro a b h1 h2
    cases a <;> first | exact absurd rfl h2 | exact absurd rfl (h1 _) | (cases op <;> simp [eqGuard])
  cases x <;> cases y <;> (try (cases op <;> cases e; done))
  · rename_i k a k' b
    cases hx; cases hy
    rw [Sem.run_bind, hg (fun _ => by simp) (by simp)]
    simp only [Result.andThen_ok]
    cases op <;> simp only [bin, binOp] at e ⊢ <;> first
      | (split at e
         · cases e
         · rename_i hk; rw [if_neg hk]; refine ⟨pureRun_ok e, ?_⟩
           simp only [Op.intArith, Op.intDiv, Op.intBits, Op.intCmp] at e
           first
             | (cases e; first | exact .int _ _ | exact .bool _)
             | (split at e
                · cases e
                · cases e; exact .int _ _))
      | (refine ⟨pureRun_ok e, ?_⟩; simp only [Op.shift] at e; split at e
         · cases e
         · cases e; exact .int _ _)
  · rename_i a b
    cases hx; cases hy
    rw [Sem.run_bind, hg (fun _ => by simp) (by simp)]
    simp only [Result.andThen_ok]
    have e2 : pureRun (Op.stringOp op a b) = some v := by cases op <;> exact e
    refine ⟨?_, stringOp_val e2⟩
    have : binOp op xt (.string a) (.string b) = Op.stringOp op a b := by cases op <;> rfl
    rw [this]; exact pureRun_ok e2
end
end Go.Proofs.Ytbjgnogcjglcoaa.Hm
