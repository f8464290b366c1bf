/- Every operation beside H's; calls; what a function gives back. -/
import Derived.Test.YtbjgnogcjglcoaaHX
import Derived.Laws.Externs
namespace Go.Proofs.Ytbjgnogcjglcoaa.Hm
open Go Go.RowKit
set_option linter.all false
set_option linter.unusedSimpArgs false
section
variable {lo n0 : Nat} {w0 : World} {ρ : Rho} {h h' : Heap} {w : World} {P : Program} {σ : List Value} {e : Operand → Value} {hop : HOp} {v : Value}
theorem g_append {dst : Option Tmp} {type : TypeId} {pos : String} {after : Array Edge} {guard : Option (Nat × Bool)} {args : Array Operand} {ats : Array TypeId} (hI : Inv lo n0 w0 ρ h w) (hσ : ∀ x, okOp x = true → VR ρ w (ev σ x) (e x)) (hc : compOp P type (.call ⟨.builtin .append, args, ats⟩) = some hop) (hx : xop lo σ h hop = some (v, h')) :
    Good lo n0 w0 P ρ h w (execOp e ⟨dst, .call ⟨.builtin .append, args, ats⟩, type, pos, after, guard⟩) v h' := by
  simp only [compOp] at hc
  split at hc
  · rename_i s x st xt hargs hats
    obtain rfl := two hargs
    obtain rfl := two hats
    split at hc
    · rename_i ho
      split at hc
      · rename_i el xl hst hxt
        split at hc
        · rename_i z b hz hb
          split at hc
          · rename_i hp
            obtain ⟨hp1, hp2, hp3⟩ := hp
            cases hc; simp only [xop] at hx
            obtain ⟨q, hq, hqs⟩ : ∃ q, zeroT P el = some q ∧ q.cells.size = z := by
              cases hq : zeroT P el with
              | none => rw [hq] at hp3; cases hp3
              | some q => rw [hq] at hp3; exact ⟨q, rfl, by simpa using hp3⟩
            obtain ⟨cs, hex⟩ := ex_b2 (e := e) (dst := dst) (type := type) (pos := pos) (after := after) (guard := guard) (b := .append) (x := s) (y := x) (t := st) (u := xt)
            rw [hex]
            exact good_append hI hst ⟨xl, hxt⟩ hz hb hp1 hp2 hq hqs (hσ s (okOps_mem ho (by simp))) (hσ x (okOps_mem ho (by simp))) hx
          · cases hc
        · cases hc
      · cases hc
    · cases hc
  · cases hc
theorem fn_inv {f : Fn} {a c : Array Value} {y : Value} (h : VR ρ w (.func f a c) y) : ∃ a' c', y = .func f a' c' ∧ VRl ρ w a.toList a'.toList ∧ VRl ρ w c.toList c'.toList := by
  cases h with
  | fn _ _ a' _ c' ha hc hva hvc =>
    exact ⟨a', c', rfl, ⟨by simpa using ha, fun i hi => by have := hva i (by simpa using hi); rwa [getD_toList, getD_toList] at this⟩, ⟨by simpa using hc, fun i hi => by have := hvc i (by simpa using hi); rwa [getD_toList, getD_toList] at this⟩⟩
theorem find_add64 {fn : Func} (h1 : fn.name = "math/bits.Add64") (h2 : fn.origin = "") : Extern.findNext fn = none ∧ Extern.find fn = some add64Entry := by
  obtain ⟨name, origin, targs, params, resultTypes, nfree, ntmps, results, body⟩ := fn
  simp only at h1 h2
  subst h1; subst h2
  exact ⟨by kernel_rfl, by kernel_rfl⟩
theorem VR.int_l {k : IntKind} {n : Int} {y : Value} (h : VR ρ w (.int k n) y) : y = .int k n := by cases h; rfl
theorem g_add64 {dst : Option Tmp} {type : TypeId} {pos : String} {after : Array Edge} {guard : Option (Nat × Bool)} {f : Operand} {args : Array Operand} {ats : Array TypeId} (hI : Inv lo n0 w0 ρ h w) (hσ : ∀ x, okOp x = true → VR ρ w (ev σ x) (e x)) (hc : compOp P type (.call ⟨.value f, args, ats⟩) = some hop) (hnc : ∀ f xs, hop ≠ .call f xs) (hx : xop lo σ h hop = some (v, h')) :
    Good lo n0 w0 P ρ h w (execOp e ⟨dst, .call ⟨.value f, args, ats⟩, type, pos, after, guard⟩) v h' := by
  simp only [compOp] at hc
  split at hc
  · rename_i ho
    split at hc
    · rename_i h64
      split at hc
      · rename_i x y z hxs
        cases hc
        simp only [xop] at hx
        split at hx
        · rename_i k1 a k2 b k3 c ea eb ec
          split at hx
          · rename_i hc0
            subst hc0
            cases hx
            cases f with
            | func fid =>
              simp only [isAdd64] at h64
              split at h64
              · rename_i fn hfn
                simp only [Bool.and_eq_true, beq_iff_eq] at h64
                obtain ⟨hb, hnm, hor⟩ := h64
                obtain ⟨hf1, hf2⟩ := find_add64 hnm hor
                have hm : ∀ x ∈ args.toList, okOp x = true := fun x hx => okOps_mem ho (by simp [Array.mem_toList_iff.1 hx])
                rw [hxs] at hm
                have vf := hσ (.func fid) rfl
                obtain ⟨a', c', hef, va, vc⟩ := fn_inv vf
                have va0 : a' = #[] := by
                  have := va.1
                  simp at this
                  exact Array.eq_empty_of_size_eq_zero this.symm
                have vc0 : c' = #[] := by
                  have := vc.1
                  simp at this
                  exact Array.eq_empty_of_size_eq_zero this.symm
                subst va0; subst vc0
                have vx := hσ x (hm x (by simp)); rw [ea] at vx
                have vy := hσ y (hm y (by simp)); rw [eb] at vy
                have vz := hσ z (hm z (by simp)); rw [ec] at vz
                have hargs : (#[] ++ args.map e) ++ #[] = #[.int k1 a, .int k2 b, .int k3 0] := by
                  have : args = #[x, y, z] := by cases args; simp_all
                  subst this
                  simp [VR.int_l vx, VR.int_l vy, VR.int_l vz]
                have hrun : (execOp e ⟨dst, .call ⟨.value (.func fid), args, ats⟩, type, pos, after, guard⟩) = callFunc fid ((#[] ++ args.map e) ++ #[]) := by
                  simp only [execOp, resolve, hef, Deferred.ofValue]
                  rfl
                have hr : (callFunc fid #[.int k1 a, .int k2 b, .int k3 0]).run P w = .ok (.value (.tuple #[.int .u64 (Int.ofNat ((a.toNat + b.toNat) % 18446744073709551616)), .int .u64 (Int.ofNat ((a.toNat + b.toNat) / 18446744073709551616))])) w := by
                  rw [run_callFunc_extern hfn (by rw [hnm]; decide) hb hf1 hf2]
                  have h : (add64Entry #[.int k1 a, .int k2 b, .int k3 0]).run P w = .ok (.tuple #[.int .u64 (Int.ofNat ((a.toNat + b.toNat) % 18446744073709551616)), .int .u64 (Int.ofNat ((a.toNat + b.toNat) / 18446744073709551616))]) w := rfl
                  rw [h]
                  rfl
                refine ⟨_, w, ρ, .inl (by rw [hrun, hargs]; exact hr), hI, Ext.refl _ _ _, ?_⟩
                exact .tupL (.cons (.int _ _) (.cons (.int _ _) (.nil _ _)))
              · cases h64
            | tmp t => cases h64
            | const v => cases h64
            | global g => cases h64
          · cases hx
        · cases hx
      · cases hc
    · cases hc; exact absurd rfl (hnc _ _)
  · cases hc
theorem op_good (hI : Inv lo n0 w0 ρ h w) (hσ : ∀ x, okOp x = true → VR ρ w (ev σ x) (e x)) (o : Oper) (hc : compOp P o.type o.op = some hop) (hnc : ∀ f xs, hop ≠ .call f xs) (hx : xop lo σ h hop = some (v, h')) : Good lo n0 w0 P ρ h w (execOp e o) v h' := by
  obtain ⟨dst, op, type, pos, after, guard⟩ := o
  simp only at hc
  cases op with
  | move x => exact g_mv hI hσ hc hx
  | assign x => exact g_mv hI hσ hc hx
  | pick c a b => exact g_pick hI hσ hc hx
  | alloc t => exact g_alloc hI hc hx
  | box t x => exact g_box hI hσ hc hx
  | build t ps => exact g_build hI hσ hc hx
  | buildSlice t n ps => exact g_bslice hI hσ hc hx
  | insert t m k x => exact g_mput hI hσ hc hx
  | load t a => exact g_load hI hσ hc hx
  | store t a x => exact g_store hI hσ hc hx
  | ready g => cases hc
  | waits g => cases hc
  | nilCheck x => exact g_nilchk hI hσ hc hx
  | binOp op xt x y yt => exact g_bin hI hσ hc hx
  | unOp op xt x => exact g_un hI hσ hc hx
  | convert s d x => exact g_conv hI hσ hc hx
  | sliceToArrayPointer d x => cases hc
  | makeInterface t x => cases hc
  | makeFunc fn a c => exact g_mkfunc hI hσ hc hx
  | makeMap t r => exact g_mkmap hI hc hx
  | makeChan t s => cases hc
  | makeSlice t l c => exact g_mkslice hI hσ hc hx
  | slice t x l hi mx => exact g_slice hI hσ hc hx
  | fieldAddr s x f => exact g_faddr hI hσ hc hx
  | field s x f => exact g_field hI hσ hc hx
  | indexAddr t x i => exact g_iaddr hI hσ hc hx
  | index t x i => exact g_index hI hσ hc hx
  | lookup t m k ok => exact g_lookup hI hσ hc hx
  | mapUpdate t m k x => exact g_mput hI hσ hc hx
  | mapEntry t m k => cases hc
  | entryStore t m k x => cases hc
  | range t x => cases hc
  | next i s => cases hc
  | entry i => cases hc
  | typeAssert x t u ok => cases hc
  | extract x i => exact g_extract hI hσ hc hx
  | call c =>
    obtain ⟨callee, args, ats⟩ := c
    cases callee with
    | value f =>
      exact g_add64 hI hσ hc hnc hx
    | invoke r m => cases hc
    | builtin b =>
      cases b <;> first
        | exact g_append hI hσ hc hx
        | exact g_len hI hσ hc hx
        | (cases hc; done)
  | go c => cases hc
  | defer c => cases hc
  | panic x => cases hc
  | send c x => cases hc
  | recv t c ok => cases hc
  | select cs b => cases hc
theorem compOp_call {type : TypeId} {op : Op} {f : Operand} {xs : List Operand} (h : compOp P type op = some (.call f xs)) : ∃ args ats, op = .call ⟨.value f, args, ats⟩ ∧ okOps (f :: args.toList) = true ∧ xs = args.toList := by
  cases op
  case call c =>
    obtain ⟨callee, args, ats⟩ := c
    cases callee with
    | value g =>
      simp only [compOp] at h
      split at h
      · rename_i ho
        split at h
        · split at h <;> cases h
        · cases h; exact ⟨args, ats, rfl, ho, rfl⟩
      · cases h
    | invoke r m => cases h
    | builtin b => cases b <;> simp only [compOp] at h <;> (repeat' (first | (cases h; done) | (simp at h; done) | split at h))
  case makeFunc fn a c => cases fn <;> simp only [compOp] at h <;> (repeat' (first | (cases h; done) | (simp at h; done) | split at h))
  case makeMap t r => cases r <;> cases h
  all_goals first
    | (cases h; done)
    | (simp only [compOp] at h; (repeat' (first | (cases h; done) | (simp at h; done) | split at h)))
/-- Calls that H's table answers. -/
def CallOK (P : Program) (lo n0 : Nat) (w0 : World) (call : Nat → List Value → Heap → Option (Value × Heap)) : Prop :=
  ∀ k vs h v h', call k vs h = some (v, h') → ∀ ρ w (args : Array Value), Inv lo n0 w0 ρ h w → VRl ρ w vs args.toList →
    (callFunc k args).run P w = .ok (.enter k args) w ∧ Calls P k args w fun e w' => ∃ v' ρ', e = .returned v' ∧ Inv lo n0 w0 ρ' h' w' ∧ Ext ρ ρ' h h' w w' ∧ VR ρ' w' v v'
theorem oper_wp {call : Nat → List Value → Heap → Option (Value × Heap)} (hcall : CallOK P lo n0 w0 call) (hI : Inv lo n0 w0 ρ h w) (o : Oper) (a : Act) (he : ∀ x, okOp x = true → VR ρ w (ev σ x) (e x)) (hex : execOp a.eval o = execOp e o) (hc : compOp P o.type o.op = some hop)
    (hx : xoper call lo σ h hop = some (v, h')) {K : Act → World → Prop} {Q : Exit → Act → World → Prop}
    (hK : ∀ v' w' ρ', Inv lo n0 w0 ρ' h' w' → Ext ρ ρ' h h' w w' → VR ρ' w' v v' → K (a.put o.dst v') w') : o.wp P a w K Q := by
  unfold Oper.wp
  rw [hex]
  by_cases hnc : ∀ f xs, hop ≠ .call f xs
  · have hx2 : xop lo σ h hop = some (v, h') := by
      cases hop <;> first | exact hx | exact absurd rfl (hnc _ _)
    obtain ⟨v', w', ρ', hr, h1, h2, h3⟩ := op_good hI he o hc hnc hx2
    rcases hr with hr | ⟨hr, rfl⟩
    · rw [hr]; exact hK _ _ _ h1 h2 h3
    · rw [hr]; exact hK _ _ _ h1 h2 h3
  · obtain ⟨f, xs, rfl⟩ : ∃ f xs, hop = .call f xs := by
      cases hop <;> first | exact ⟨_, _, rfl⟩ | exact absurd (fun f xs => by simp) hnc
    simp only [xoper] at hx
    split at hx
    · rename_i k vs hcl
      obtain ⟨dst, op, type, pos, after, guard⟩ := o
      simp only at hc hK
      obtain ⟨args, ats, rfl, hok, rfl⟩ : ∃ args ats, op = .call ⟨.value f, args, ats⟩ ∧ okOps (f :: args.toList) = true ∧ xs = args.toList := by
        exact compOp_call hc
      unfold callee at hcl
      split at hcl
      · rename_i first captured hf
        cases hcl
        have vf := he f (okOps_mem hok (by simp))
        rw [hf] at vf
        obtain ⟨a', c', hef, va, vc⟩ := fn_inv vf
        have hrun : (execOp e ⟨dst, .call ⟨.value f, args, ats⟩, type, pos, after, guard⟩) = callFunc k ((a' ++ args.map e) ++ c') := by
          simp only [execOp, resolve, hef, Deferred.ofValue]
          rfl
        have vargs : VRl ρ w ((first.toList ++ args.toList.map (ev σ)) ++ captured.toList) ((a' ++ args.map e) ++ c').toList := by
          simp only [Array.toList_append, Array.toList_map]
          exact (va.append (VRl.map fun x hx => he x (okOps_mem hok (by simp [Array.mem_toList_iff.1 hx])))).append vc
        obtain ⟨k1, k2⟩ := hcall _ _ _ _ _ hx ρ w _ hI vargs
        rw [hrun, k1]
        exact k2.mono fun e w' ⟨v', ρ', h1, h2, h3, h4⟩ => by subst h1; exact hK _ _ _ h2 h3 h4
      · cases hcl
    · cases hx
end
end Go.Proofs.Ytbjgnogcjglcoaa.Hm
