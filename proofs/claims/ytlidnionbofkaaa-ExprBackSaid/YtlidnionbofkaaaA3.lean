import Derived.Test.YtlidnionbofkaaaA2
import Derived.Laws.Externs
import Derived.Laws.IdiomRangeMap
namespace Go.Proofs.Ytlidnionbofkaaa.Hm
noncomputable section
open Go Go.RowKit
set_option linter.all false
set_option linter.unusedSimpArgs false
section
variable {lo n0 : Nat} {w0 : World} {ρ : Rho} {h h' : Heap} {w : World} {P : Program} {σ : List Value} {e : Operand → Value} {dst : Option Tmp} {type : TypeId} {pos : String} {after : Array Edge} {guard : Option (Nat × Bool)} {hop : HOp} {v : Value}
theorem g_load {t : TypeId} {x : Operand} (hI : Inv lo n0 w0 ρ h w) (hσ : ∀ x, okOp x = true → VR ρ w (ev σ x) (e x)) (hc : compOp P type (.load t x) = some hop) (hx : xop lo σ h hop = some (v, h')) :
    Good lo n0 w0 P ρ h w (execOp e ⟨dst, .load t x, type, pos, after, guard⟩) v h' := by
  simp only [compOp] at hc
  split at hc
  · rename_i ho
    split at hc
    · rename_i n g hn hg
      cases hc; simp only [xop, xopE] at hx
      have vx := hσ x ho
      split at hx
      · rename_i b o hb
        rw [hb] at vx
        obtain ⟨r, s, hr, hρ⟩ := ptr_inv vx
        cases g with
        | none =>
          simp only at hx
          obtain ⟨u, hu, e2⟩ := Option.map_eq_some_iff.1 hx
          cases e2
          obtain ⟨u', k1, k2, _⟩ := hI.rd1 (P := P) hρ hu
          refine good_p hI (s := Instr.loadAt t (e x)) ?_ k2
          rw [hr]
          simp only [Instr.loadAt, Instr.sureAddr, loadVar, Sem.run_bind, Sem.run_pure, Result.andThen_ok, run_agg hg, Option.isSome_none, Bool.false_eq_true, if_false, k1]
        | some m =>
          have hm := agg_size hg
          rw [hn] at hm; cases hm
          simp only at hx
          obtain ⟨u, hu, e2⟩ := Option.map_eq_some_iff.1 hx
          cases e2
          obtain ⟨l', k1, k2, _, k4, _⟩ := hI.rd (P := P) hρ hu
          refine good_p hI (s := Instr.loadAt t (e x)) (v' := .agg l') ?_ (VR.aggL k2 k4)
          rw [hr]
          simp only [Instr.loadAt, Instr.sureAddr, loadVar, Sem.run_bind, Sem.run_pure, Result.andThen_ok, run_agg hg, Option.isSome_some, if_true, run_size hn, k1]
      · cases hx
    · cases hc
  · cases hc
theorem cells_cell1 {x x' : Value} {cs : List Value} (hv : VR ρ w x x') (hc : cellsV x = some cs) : ∀ y ∈ x'.cells.toList, cell1 y = true := by
  obtain ⟨a, b⟩ := hv.cells hc
  intro y hy
  obtain ⟨i, hi, rfl⟩ := List.getElem_of_mem hy
  have hi2 : i < cs.length := by rw [a.1]; exact hi
  have := a.2 i hi2
  simp only [List.getD_eq_getElem?_getD, List.getElem?_eq_getElem hi, List.getElem?_eq_getElem hi2, Option.getD_some] at this
  exact this.cell1 (b _ (List.getElem_mem hi2))
theorem g_store {t : TypeId} {a x : Operand} (hI : Inv lo n0 w0 ρ h w) (hσ : ∀ x, okOp x = true → VR ρ w (ev σ x) (e x)) (hc : compOp P type (.store t a x) = some hop) (hx : xop lo σ h hop = some (v, h')) :
    Good lo n0 w0 P ρ h w (execOp e ⟨dst, .store t a x, type, pos, after, guard⟩) v h' := by
  simp only [compOp] at hc
  split at hc
  · rename_i ho
    obtain ⟨n, hn, rfl⟩ := Option.map_eq_some_iff.1 hc
    simp only [xop, xopE] at hx
    have va := hσ a (okOps_mem ho (by simp))
    have vx := hσ x (okOps_mem ho (by simp))
    split at hx
    · rename_i b o hb
      rw [hb] at va
      obtain ⟨r, s, hr, hρ⟩ := ptr_inv va
      split at hx
      · rename_i vs hvs
        split at hx
        · rename_i hl
          obtain ⟨u, hu, e2⟩ := Option.map_eq_some_iff.1 hx
          cases e2
          obtain ⟨k1, k2⟩ := vx.cells hvs
          obtain ⟨w', h1, h2, h3⟩ := hI.wr (P := P) hρ hu k1 k2 (cells_cell1 vx hvs)
          have hsz : (e x).cells.size = n := by have := k1.1; simp at this; omega
          refine good_u (s := Instr.storeAt t (e a) (e x)) ?_ h2 h3
          rw [hr]
          simp only [Instr.storeAt, Instr.sureAddr, storeVar, Sem.run_bind, Sem.run_pure, Result.andThen_ok, run_size hn, hsz, ne_eq, not_true_eq_false, if_false, Sem.run_ite, h1]
        · cases hx
      · cases hx
    · cases hx
  · cases hc
theorem call_builtin {b : Builtin} {args : Array Operand} {ats : Array TypeId} : execOp e ⟨dst, .call ⟨.builtin b, args, ats⟩, type, pos, after, guard⟩ = builtin b ats type (args.map fun | .const _ => true | _ => false) (args.map e) := rfl
theorem two {α : Type} {a : Array α} {x y : α} (h : a.toList = [x, y]) : a = #[x, y] := by cases a; simp_all
theorem one {α : Type} {a : Array α} {x : α} (h : a.toList = [x]) : a = #[x] := by cases a; simp_all
theorem ex_b1 {b : Builtin} {x : Operand} {t : TypeId} : execOp e ⟨dst, .call ⟨.builtin b, #[x], #[t]⟩, type, pos, after, guard⟩ = builtin b #[t] type #[match x with | .const _ => true | _ => false] #[e x] := by
  rw [call_builtin]; simp
theorem ex_b2 {b : Builtin} {x y : Operand} {t u : TypeId} : ∃ cs, execOp e ⟨dst, .call ⟨.builtin b, #[x, y], #[t, u]⟩, type, pos, after, guard⟩ = builtin b #[t, u] type cs #[e x, e y] := by
  rw [call_builtin]; simp only [List.map_toArray, List.map_cons, List.map_nil]; exact ⟨_, rfl⟩
theorem g_len {args : Array Operand} {ats : Array TypeId} (hI : Inv lo n0 w0 ρ h w) (hσ : ∀ x, okOp x = true → VR ρ w (ev σ x) (e x)) (hc : compOp P type (.call ⟨.builtin .len, args, ats⟩) = some hop) (hx : xop lo σ h hop = some (v, h')) :
    Good lo n0 w0 P ρ h w (execOp e ⟨dst, .call ⟨.builtin .len, args, ats⟩, type, pos, after, guard⟩) v h' := by
  simp only [compOp] at hc
  split at hc
  · rename_i x t hargs hats
    obtain rfl := one hargs
    obtain rfl := one hats
    split at hc
    · rename_i ho
      have vx := hσ x ho
      rw [ex_b1]
      have key : ∀ {u : Value}, (Builtin.len_ #[t] type #[e x]).run P w = .ok u w → VR ρ w v u → h' = h → Good lo n0 w0 P ρ h w (builtin .len #[t] type #[match x with | .const _ => true | _ => false] #[e x]) v h' := by
        rintro u h1 h2 rfl
        exact good_p hI (s := Builtin.len_ #[t] type #[e x]) h1 h2
      split at hc
      · rename_i hu
        cases hc; simp only [xop, xopE] at hx
        split at hx
        · rename_i s hs
          cases hx
          rw [hs] at vx
          refine key (u := .int .i64 s.size) ?_ (.int _ _) rfl
          rw [vx.of_str]
          simp [Builtin.len_, run_under hu, goInt]
        · cases hx
      · rename_i el hu
        cases hc; simp only [xop, xopE] at hx
        split at hx
        · rename_i a n c hs
          cases hx
          rw [hs] at vx
          obtain ⟨a', c', he⟩ : ∃ a' c', e x = .slice a' n c' := by generalize e x = y at vx; cases vx <;> exact ⟨_, _, rfl⟩
          refine key (u := .int .i64 n) ?_ (.int _ _) rfl
          rw [he]
          simp [Builtin.len_, run_under hu, goInt]
        · cases hx
      · rename_i kt et hu
        cases hc; simp only [xop, xopE] at hx
        split at hx
        · rename_i hs
          cases hx
          rw [hs] at vx
          have he : e x = .map none := by generalize e x = y at vx; cases vx; rfl
          refine key (u := .int .i64 0) ?_ (.int _ _) rfl
          rw [he]
          simp [Builtin.len_, run_under hu, goInt]
        · rename_i b hs
          rw [hs] at vx
          split at hx
          · rename_i es t0 hg
            cases hx
            obtain ⟨r, he, hρ⟩ : ∃ r, e x = .map (some r) ∧ ρ b = some (r, 0) := by generalize e x = y at vx; cases vx; exact ⟨_, rfl, by assumption⟩
            obtain ⟨es', h1, h2, _⟩ := hI.map _ _ _ _ _ hρ hg
            refine key (u := .int .i64 es.length) ?_ (.int _ _) rfl
            rw [he]
            simp [Builtin.len_, run_under hu, goInt, getObj, Sem.run, h1, h2]
          · cases hx
        · cases hx
      · rename_i n el hu
        cases hc; simp only [xop, xopE] at hx; cases hx
        refine key (u := .int .i64 n) ?_ (.int _ _) rfl
        have : ∀ y, (Builtin.len_ #[t] type #[y]).run P w = .ok (.int .i64 n) w := by
          intro y
          cases y <;> simp [Builtin.len_, run_under hu, goInt]
        exact this _
      · cases hc
    · cases hc
  · cases hc
theorem map_inv {b : Nat} {y : Value} (h : VR ρ w (.map (some b)) y) : ∃ r, y = .map (some r) ∧ ρ b = some (r, 0) := by
  cases h; exact ⟨_, rfl, by assumption⟩
theorem run_getMap {r : Nat} {es : Array MapEntry} {t : Nat} (h : w.heap[r]? = some (.map es t)) : (getObj r).run P w = .ok (.map es t) w := by
  simp [getObj, Sem.run, h]
theorem g_lookup {t : TypeId} {m k : Operand} {ok : Bool} (hI : Inv lo n0 w0 ρ h w) (hσ : ∀ x, okOp x = true → VR ρ w (ev σ x) (e x)) (hc : compOp P type (.lookup t m k ok) = some hop) (hx : xop lo σ h hop = some (v, h')) :
    Good lo n0 w0 P ρ h w (execOp e ⟨dst, .lookup t m k ok, type, pos, after, guard⟩) v h' := by
  simp only [compOp] at hc
  split at hc
  · rename_i ho
    have vm := hσ m (okOps_mem ho (by simp))
    have vk := hσ k (okOps_mem ho (by simp))
    split at hc
    · rename_i kt et hu
      split at hc
      · rename_i d z hd hz
        split at hc
        · rename_i hp
          cases hc; simp only [xop, xopE] at hx
          have hes : ∀ es, h.entries (ev σ m) = some es → ∃ es' : Array MapEntry, ER ρ w es es'.toList ∧ ((e m = .map none ∧ es' = #[]) ∨ ∃ r t0, e m = .map (some r) ∧ (getObj r).run P w = .ok (.map es' t0) w) := by
            intro es he
            unfold Heap.entries at he
            split at he
            · rename_i hm
              cases he
              rw [hm] at vm
              have hem : e m = .map none := by generalize e m = y at vm; cases vm; rfl
              exact ⟨#[], ⟨rfl, fun i k v a hi => by simp at hi⟩, .inl ⟨hem, rfl⟩⟩
            · rename_i b hm
              rw [hm] at vm
              split at he
              · rename_i es2 t2 hg
                cases he
                obtain ⟨r, hem, hρ⟩ := map_inv vm
                obtain ⟨es', h1, h2, h3⟩ := hI.map _ _ _ _ _ hρ hg
                exact ⟨es', ⟨by simpa using h2, fun i k v a hi => by simpa using h3 i k v a hi⟩, .inr ⟨r, _, hem, run_getMap h1⟩⟩
              · cases he
            · cases he
          split at hx
          · cases hx
          · rename_i es he
            obtain ⟨es', h1, h2⟩ := hes es he
            split at hx
            · rename_i hk
              have hck := key_ck (P := P) (w := w) hd hk vk es'.isEmpty
              have run_look : ∀ {r' : Option (Nat × Value)} {u : Value}, (Instr.findKey kt (e k) es'.toList).run P w = .ok r' w → (u = match r' with | some (_, x) => if ok then .tuple #[x, .bool true] else x | none => if ok then .tuple #[z, .bool false] else z) → (Instr.lookup t (e m) (e k) ok).run P w = .ok u w := by
                intro r' u hf hu'
                unfold Instr.lookup
                rw [Sem.run_bind, run_under hu]
                simp only [Result.andThen_ok]
                rcases h2 with ⟨hem, rfl⟩ | ⟨r, t0, hem, hget⟩
                · rw [hem]
                  simp only [Sem.run_bind, Sem.run_pure, Result.andThen_ok, hck, hf]
                  cases r' with
                  | none => simp only [Sem.run_bind, run_zero hz, Result.andThen_ok, Sem.run_pure, hu']
                  | some p => obtain ⟨i, x⟩ := p; simp only [Sem.run_bind, Sem.run_pure, Result.andThen_ok, hu']
                · rw [hem]
                  simp only [Sem.run_bind, hget, Sem.run_pure, Result.andThen_ok, hck, hf]
                  cases r' with
                  | none => simp only [Sem.run_bind, run_zero hz, Result.andThen_ok, Sem.run_pure, hu']
                  | some p => obtain ⟨i, x⟩ := p; simp only [Sem.run_bind, Sem.run_pure, Result.andThen_ok, hu']
              have vz : VR ρ w z z := .plainV hp
              split at hx
              · rename_i i x hf
                cases hx
                obtain ⟨r', k1, k2⟩ := find_key (P := P) hd vk h1 hf
                cases r' with
                | none => exact k2.elim
                | some p =>
                  obtain ⟨j, x'⟩ := p
                  refine good_p hI (s := Instr.lookup t (e m) (e k) ok) (run_look k1 rfl) ?_
                  cases ok
                  · exact k2.2
                  · exact .tupL (.cons k2.2 (.cons (.bool _) (.nil _ _)))
              · rename_i hf
                cases hx
                obtain ⟨r', k1, k2⟩ := find_key (P := P) hd vk h1 hf
                cases r' with
                | some p => exact k2.elim
                | none =>
                  refine good_p hI (s := Instr.lookup t (e m) (e k) ok) (run_look k1 rfl) ?_
                  cases ok
                  · exact vz
                  · exact .tupL (.cons vz (.cons (.bool _) (.nil _ _)))
              · cases hx
            · cases hx
        · cases hc
      · cases hc
    · cases hc
  · cases hc
theorem g_mkmap {t : TypeId} {x : Option Operand} (hI : Inv lo n0 w0 ρ h w) (hc : compOp P type (.makeMap t x) = some hop) (hx : xop lo σ h hop = some (v, h')) :
    Good lo n0 w0 P ρ h w (execOp e ⟨dst, .makeMap t x, type, pos, after, guard⟩) v h' := by
  cases x with
  | some y => cases hc
  | none =>
    cases hc; simp only [xop, xopE] at hx; cases hx
    obtain ⟨a1, a2⟩ := hI.allocMap
    exact good_v (s := Instr.makeMap t none) (v' := .map (some w.heap.size)) rfl a1 a2 (.map _ _ (rho_new ρ h.n w.heap.size 0))
end
end
end Go.Proofs.Ytlidnionbofkaaa.Hm
namespace Go.Proofs.Ytlidnionbofkaaa.Hm
noncomputable section
open Go Go.RowKit
set_option linter.all false
set_option linter.unusedSimpArgs false
section
variable {lo n0 : Nat} {w0 : World} {ρ : Rho} {h h' : Heap} {w : World} {P : Program} {σ : List Value} {e : Operand → Value} {dst : Option Tmp} {type : TypeId} {pos : String} {after : Array Edge} {guard : Option (Nat × Bool)} {hop : HOp} {v : Value}
theorem veq0_true {k : PK} {a b : Value} (h : veq0 k a b = some true) : a = b ∧ ∀ n, Instr.sameBits n a b = true := by
  rcases veq0_inv h with ⟨_, x, y, rfl, rfl, e⟩ | ⟨_, q, x, y, rfl, rfl, e⟩ | ⟨rfl, x, y, rfl, rfl, e⟩
  · have e' := eq_of_beq e.symm
    subst e'; exact ⟨rfl, fun n => by cases n <;> simp [Instr.sameBits]⟩
  · have e' := eq_of_beq e.symm
    subst e'; exact ⟨rfl, fun n => by cases n <;> simp [Instr.sameBits]⟩
  · have e' : x = y := by
      simp only [veq0, Option.some.injEq, decide_eq_true_eq] at h
      obtain ⟨⟨x⟩⟩ := x
      obtain ⟨⟨y⟩⟩ := y
      simp only at h
      rw [h]
    subst e'
    exact ⟨rfl, fun n => by cases n <;> exact e.symm⟩
theorem eqcells_true {xs ys : List Value} : ∀ {l : List (Nat × PK)}, eqcells xs ys l = some true → ∀ o ∈ l, ∃ a b, xs[o.1]? = some a ∧ ys[o.1]? = some b ∧ veq0 o.2 a b = some true
  | [], h, o, ho => by cases ho
  | p :: l, h, o, ho => by
    simp only [eqcells] at h
    split at h
    · rename_i a b ha hb
      split at h
      · rename_i e
        cases ho with
        | head => exact ⟨a, b, ha, hb, e⟩
        | tail _ ho => exact eqcells_true h o ho
      · rename_i r hr; exact absurd h hr
    · cases h
theorem same_bits {t : TypeId} {D : EqD} (hD : keyT P t = some D) {a b a' b' : Value} (ha : VR ρ w a a') (hb : VR ρ w b b') (he : eqv D a b = some true) : Instr.sameBits 10000 b' a' = true := by
  rcases keyT_inv hD with ⟨q, rfl, hq⟩ | ⟨n, l, rfl, hn, hl, hr, hg, hw, _⟩
  · simp only [eqv] at he
    rw [ha.prim he, hb.prim2 he]
    obtain ⟨rfl, h2⟩ := veq0_true he
    exact h2 _
  · cases a <;> simp only [eqv] at he <;> (try (cases he; done))
    cases b <;> simp only [eqv] at he <;> (try (cases he; done))
    split at he
    · rename_i xs ys hlen
      obtain ⟨xs', rfl, hx, _⟩ := ha.of_agg
      obtain ⟨ys', rfl, hy, _⟩ := hb.of_agg
      have cell : ∀ j, j < n → ∃ a, xs'.toList[j]? = some a ∧ ys'.toList[j]? = some a ∧ ∀ m, Instr.sameBits m a a = true := by
        intro j hj
        have : j ∈ l.map (·.1) := by rw [hr]; simpa using hj
        obtain ⟨o, ho, rfl⟩ := List.mem_map.1 this
        obtain ⟨a, b, h1, h2, h3⟩ := eqcells_true he o ho
        obtain ⟨a', k1, va⟩ := hx.get h1
        obtain ⟨b', k2, vb⟩ := hy.get h2
        obtain ⟨rfl, h4⟩ := veq0_true h3
        refine ⟨a, ?_, ?_, h4⟩
        · rw [k1, va.prim h3]
        · rw [k2, vb.prim2 h3]
      have l1 : xs'.toList.length = n := by rw [← hx.1]; exact hlen.1
      have l2 : ys'.toList.length = n := by rw [← hy.1]; exact hlen.2
      have heq : ys'.toList = xs'.toList := by
        apply List.ext_getElem?
        intro j
        by_cases hj : j < n
        · obtain ⟨a, h1, h2, _⟩ := cell j hj; rw [h1, h2]
        · rw [List.getElem?_eq_none (by omega), List.getElem?_eq_none (by omega)]
      have hall : ∀ x ∈ xs'.toList, ∀ m, Instr.sameBits m x x = true := by
        intro x hx m
        obtain ⟨j, hj, rfl⟩ := List.getElem_of_mem hx
        obtain ⟨a, h1, _, h3⟩ := cell j (by omega)
        rw [List.getElem?_eq_getElem hj] at h1; cases h1; exact h3 m
      have hsz : ys'.size = xs'.size := by simpa using congrArg List.length heq
      show Instr.sameBits (9999 + 1) (.agg ys') (.agg xs') = true
      simp only [Instr.sameBits, hsz, heq, beq_self_eq_true, Bool.true_and, List.all_eq_true]
      intro p hp
      obtain ⟨x, y⟩ := p
      have : x = y ∧ x ∈ xs'.toList := by
        have hz : ∀ (l : List Value) (x y : Value), (x, y) ∈ l.zip l → x = y ∧ x ∈ l := by
          intro l
          induction l with
          | nil => intro x y h; simp at h
          | cons a l ih =>
            intro x y h
            simp only [List.zip_cons_cons, List.mem_cons, Prod.mk.injEq] at h
            rcases h with ⟨rfl, rfl⟩ | h
            · exact ⟨rfl, by simp⟩
            · obtain ⟨h1, h2⟩ := ih x y h; exact ⟨h1, by simp [h2]⟩
        exact hz _ _ _ hp
      obtain ⟨rfl, hm⟩ := this
      exact hall x hm _
    · cases he
theorem findL_spec {D : EqD} {k : Value} : ∀ {es : List (Value × Value × Nat)} {i0 i : Nat} {v : Value}, findL D k es i0 = some (some (i, v)) → i0 ≤ i ∧ ∃ k2 a, es[i - i0]? = some (k2, v, a) ∧ eqv D k k2 = some true
  | [], i0, i, v, h => by simp [findL] at h
  | (k2, v2, a) :: es, i0, i, v, h => by
    simp only [findL] at h
    split at h
    · rename_i he
      cases h
      exact ⟨Nat.le_refl _, k2, a, by simp, he⟩
    · obtain ⟨h1, k3, a3, h2, h3⟩ := findL_spec h
      refine ⟨by omega, k3, a3, ?_, h3⟩
      rw [show i - i0 = (i - (i0 + 1)) + 1 by omega]
      simpa using h2
    · cases h
theorem run_setMap {r : Nat} {es : Array MapEntry} {t : Nat} (hr : w.heap[r]? = some (.map es t)) (o : Obj) : (setObj r o).run P w = .ok () (setRow w r o) := by
  simp [setObj, Sem.run, hr, setRow]
theorem g_mput {t : TypeId} {m k x : Operand} (hI : Inv lo n0 w0 ρ h w) (hσ : ∀ x, okOp x = true → VR ρ w (ev σ x) (e x))
    (hc : (if okOps [m, k, x] then match P.underlying t with | some (.map kt _) => (keyT P kt).map (HOp.mput · m k x) | _ => none else none) = some hop) (hx : xop lo σ h hop = some (v, h')) :
    Good lo n0 w0 P ρ h w (do Instr.mapUpdate t (e m) (e k) (e x); pure .skip) v h' := by
  split at hc
  · rename_i ho
    have vm := hσ m (okOps_mem ho (by simp))
    have vk := hσ k (okOps_mem ho (by simp))
    have vx := hσ x (okOps_mem ho (by simp))
    split at hc
    · rename_i kt et hu
      obtain ⟨d, hd, rfl⟩ := Option.map_eq_some_iff.1 hc
      simp only [xop, xopE] at hx
      split at hx
      · rename_i b hm
        rw [hm] at vm
        obtain ⟨r, hem, hρ⟩ := map_inv vm
        split at hx
        · cases hx
        · rename_i hlo
          split at hx
          · rename_i es t0 hg
            obtain ⟨es', h1, h2, h3⟩ := hI.map _ _ _ _ _ hρ hg
            have hER : ER ρ w es es'.toList := ⟨by simpa using h2, fun i k v a hi => by simpa using h3 i k v a hi⟩
            split at hx
            · rename_i hk
              have hck := key_ck (P := P) (w := w) hd hk vk false
              split at hx
              · rename_i i v2 hf
                obtain ⟨_, k2, a2, h4, h5⟩ := findL_spec hf
                simp only [Nat.sub_zero] at h4
                rw [h4] at hx
                simp only at hx
                cases hx
                obtain ⟨r', q1, q2⟩ := find_key (P := P) hd vk hER hf
                cases r' with
                | none => exact q2.elim
                | some p =>
                  obtain ⟨j, x2⟩ := p
                  obtain ⟨rfl, _⟩ := q2
                  obtain ⟨ee, e1, e2, e3, e4⟩ := h3 i k2 v2 a2 h4
                  have hst : (Instr.keyThatStays ((es'[i]?.map (·.key)).getD (e k)) (e k)).run P w = .ok (e k) w := by
                    unfold Instr.keyThatStays
                    rw [e1]
                    simp only [Option.map_some, Option.getD_some]
                    rw [if_pos (same_bits hd vk e2 h5)]; rfl
                  obtain ⟨a1, a2'⟩ := hI.mput (Nat.le_of_not_lt hlo) hρ hg h1 (es2 := es.set i (ev σ k, ev σ x, a2)) (t' := t0) (em' := es'.modify i fun y => { y with key := e k, val := e x }) (by simp [h2]) (fun q k3 v3 a3 hq => by
                    rw [List.getElem?_set] at hq
                    rw [Array.getElem?_modify]
                    by_cases eq : i = q
                    · subst eq
                      rw [if_pos rfl] at hq
                      rw [if_pos rfl, e1]
                      split at hq
                      · simp only [Option.some.injEq, Prod.mk.injEq] at hq
                        obtain ⟨rfl, rfl, rfl⟩ := hq
                        exact ⟨_, rfl, vk, vx, e4⟩
                      · cases hq
                    · rw [if_neg eq] at hq
                      rw [if_neg eq]
                      exact h3 q k3 v3 a3 hq)
                  refine good_u ?_ a1 a2'
                  unfold Instr.mapUpdate
                  rw [hem, Sem.run_bind, run_under hu]
                  simp only [Result.andThen_ok, Sem.run_bind, run_getMap h1, hck, q1, hst, run_setMap h1]
              · rename_i hf
                cases hx
                obtain ⟨r', q1, q2⟩ := find_key (P := P) hd vk hER hf
                cases r' with
                | some p => exact q2.elim
                | none =>
                  obtain ⟨a1, a2'⟩ := hI.mput (Nat.le_of_not_lt hlo) hρ hg h1 (es2 := es ++ [(ev σ k, ev σ x, t0)]) (t' := t0 + 1) (em' := es'.push { key := e k, val := e x, born := t0 }) (by simp [h2]) (fun q k3 v3 a3 hq => by
                    rw [Array.getElem?_push]
                    by_cases eq : q = es'.size
                    · rw [if_pos eq]
                      rw [List.getElem?_append_right (by omega), h2, eq, Nat.sub_self] at hq
                      simp only [List.getElem?_cons_zero, Option.some.injEq, Prod.mk.injEq] at hq
                      obtain ⟨rfl, rfl, rfl⟩ := hq
                      exact ⟨_, rfl, vk, vx, rfl⟩
                    · rw [if_neg eq]
                      have hlt : q < es.length := by
                        rcases Nat.lt_or_ge q es.length with h | h
                        · exact h
                        · rw [List.getElem?_append_right h, List.getElem?_eq_none (by simp; omega)] at hq; cases hq
                      rw [List.getElem?_append_left hlt] at hq
                      exact h3 q k3 v3 a3 hq)
                  refine good_u ?_ a1 a2'
                  unfold Instr.mapUpdate
                  rw [hem, Sem.run_bind, run_under hu]
                  simp only [Result.andThen_ok, Sem.run_bind, run_getMap h1, hck, q1, run_setMap h1]
              · cases hx
            · cases hx
          · cases hx
      · cases hx
    · cases hc
  · cases hc
theorem wrap_small {n : Int} (h0 : 0 ≤ n) (h1 : n ≤ 2 ^ 47) : IntKind.i64.wrap n = n := by
  unfold IntKind.wrap IntKind.bits IntKind.signed
  simp only [Bool.true_and, decide_eq_true_eq]
  split <;> omega
theorem run_askRoom (n : Nat) : (askRoom n).run P w = .ok () w := by
  unfold askRoom; split <;> rfl
theorem g_mkslice {t : TypeId} {l c : Operand} (hI : Inv lo n0 w0 ρ h w) (hσ : ∀ x, okOp x = true → VR ρ w (ev σ x) (e x)) (hc : compOp P type (.makeSlice t l c) = some hop) (hx : xop lo σ h hop = some (v, h')) :
    Good lo n0 w0 P ρ h w (execOp e ⟨dst, .makeSlice t l c, type, pos, after, guard⟩) v h' := by
  simp only [compOp] at hc
  split at hc
  · rename_i ho
    have vl := hσ l (okOps_mem ho (by simp))
    have vc := hσ c (okOps_mem ho (by simp))
    split at hc
    · rename_i el hel
      split at hc
      · rename_i s b z hs hb hz
        split at hc
        · rename_i hp
          obtain ⟨hp1, hp2, hp3, hp4, hp5⟩ := hp
          cases hc; simp only [xop, xopE] at hx
          split at hx
          · rename_i q1 nl q2 nc hl hcc
            rw [hl] at vl; rw [hcc] at vc
            split at hx
            · rename_i hle
              obtain ⟨h0, h1, h2⟩ := hle
              cases hx
              obtain ⟨ml, rfl⟩ := Int.eq_ofNat_of_zero_le h0
              obtain ⟨mc, rfl⟩ := Int.eq_ofNat_of_zero_le (Int.le_trans h0 h1)
              have hmc : mc * b ≤ 2 ^ 47 := by exact_mod_cast h2
              have hmc2 : mc ≤ 2 ^ 47 := Nat.le_trans (Nat.le_mul_of_pos_right _ hp4) hmc
              obtain ⟨za, zb⟩ := plainV_cells (ρ := ρ) (w := w) hp1 (nt hp5)
              obtain ⟨r1, r2⟩ := zeros_row z.cells (by omega) mc za zb
              rw [hp2] at r1
              simp only [Int.toNat_natCast]
              obtain ⟨l1, l2⟩ := r1.row r2
              obtain ⟨i, hi, hib⟩ := run_bytes (w := w) hb
              have hrun : (Instr.makeSlice t (e l) (e c)).run P w = .ok (.slice (some ⟨w.heap.size, 0, none⟩) ml mc) (w.alloc (.cells ((Array.range (mc * s)).map (z.cells[· % s]!)) el)) := by
                rw [vl.of_int, vc.of_int]
                unfold Instr.makeSlice
                rw [Sem.run_bind, run_under hel]
                have w1 : IntKind.i64.wrap (ml : Int) = ml := wrap_small (by omega) (by omega)
                have w2 : IntKind.i64.wrap (mc : Int) = mc := wrap_small (by omega) (by omega)
                have hbig : ¬ ((b : Int) * mc > 2 ^ 48) := by
                  have : (b : Int) * mc ≤ 2 ^ 47 := by rw [Int.mul_comm]; exact_mod_cast hmc
                  omega
                simp only [Result.andThen_ok, Sem.run_bind, asInt, asIntOf, Sem.run_pure, hi, hib, w1, w2]
                have hcond : ((decide ((mc : Int) < 0) || decide ((b : Int) * mc > 2 ^ 48)) || decide ((ml : Int) < 0) || decide ((ml : Int) > mc)) = false := by
                  simp only [Bool.or_eq_false_iff, decide_eq_false_iff_not]
                  refine ⟨⟨⟨by omega, hbig⟩, by omega⟩, by omega⟩
                simp only [hcond, Bool.false_eq_true, if_false, Int.toNat_natCast, Sem.run_bind, run_askRoom, Result.andThen_ok, run_size hs]
                by_cases hz0 : mc * s = 0
                · have hm0 : mc = 0 := by rcases Nat.mul_eq_zero.1 hz0 with h | h <;> omega
                  subst hm0
                  have hr0 : Array.range 0 = #[] := by simp
                  simp only [Nat.zero_mul, if_true, hr0, List.map_toArray, List.map_nil, Sem.run_pure, Result.andThen_ok, Sem.run_bind, run_newRow]
                · simp only [if_neg hz0, Sem.run_bind, run_zero hz, Sem.run_pure, Result.andThen_ok, hp2, run_newRow]
              obtain ⟨a1, a2⟩ := hI.alloc el l1 l2 (.inl rfl)
              refine good_v hrun a1 a2 ?_
              have := VR.sle (w := w.alloc (.cells ((Array.range (mc * s)).map (z.cells[· % s]!)) el)) h.n w.heap.size 0 0 ml mc (rho_new ρ h.n w.heap.size 0)
              simpa using this
            · cases hx
          · cases hx
        · cases hc
      · cases hc
    · cases hc
  · cases hc
end
end
end Go.Proofs.Ytlidnionbofkaaa.Hm
namespace Go.Proofs.Ytlidnionbofkaaa.Hm
noncomputable section
open Go Go.RowKit
set_option linter.all false
set_option linter.unusedSimpArgs false
section
variable {lo n0 : Nat} {w0 : World} {ρ : Rho} {h h' : Heap} {w : World} {P : Program} {σ : List Value} {e : Operand → Value} {dst : Option Tmp} {type : TypeId} {pos : String} {after : Array Edge} {guard : Option (Nat × Bool)} {hop : HOp} {v : Value}
theorem Inv.extPush (hI : Inv lo n0 w0 ρ h w) {b cl fl fl' : Nat} {new : List Value} (hcl : h.cl cl = some (b, fl)) (hf : fl' = fl ∨ fl' = h.n) : Inv lo n0 w0 ρ (h.extC cl fl' new) w := by
  have hget : ∀ x, (h.extC cl fl' new).get x = if x = h.n then some (.row new (some cl)) else h.get x := Heap.get_extC h cl fl' new
  have hcls : ∀ x, (h.extC cl fl' new).cl x = if x = cl then some (h.n, fl') else h.cl x := Heap.cl_extC hcl fl' new
  have hne : ∀ x r s, ρ x = some (r, s) → x ≠ h.n := fun x r s ex => Nat.ne_of_lt (hI.dom x r s ex).1
  have hother : ∀ x cs2, x ≠ h.n → (h.extC cl fl' new).cells x = some cs2 → h.cells x = some cs2 := by
    intro x cs2 hnx h2
    rcases Heap.cells_some h2 with hg2 | ⟨c2, t, f2, hg2, hc2, hle2⟩ <;> rw [hget, if_neg hnx] at hg2
    · unfold Heap.cells; rw [hg2]
    · have hxlt := Heap.get_lt hg2
      rw [hcls] at hc2
      by_cases ec : c2 = cl
      · subst ec
        rw [if_pos rfl] at hc2; cases hc2
        rcases hf with rfl | rfl
        · unfold Heap.cells; rw [hg2]; simp only [hcl]; rw [if_pos hle2]
        · omega
      · rw [if_neg ec] at hc2
        unfold Heap.cells; rw [hg2]; simp only [hc2]; rw [if_pos hle2]
  have hlive : ∀ x, x ≠ h.n → (h.extC cl fl' new).live x → h.live x := by
    rintro x hnx (⟨cs2, h2⟩ | ⟨es, t, h2⟩)
    · exact .inl ⟨cs2, hother x cs2 hnx h2⟩
    · rw [hget, if_neg hnx] at h2; exact .inr ⟨es, t, h2⟩
  refine ⟨hI.below, hI.n0le, by show lo ≤ h.n + 1; have := hI.lon; omega, fun x r s ex => ⟨by show x < h.n + 1; have := (hI.dom x r s ex).1; omega, (hI.dom x r s ex).2⟩, hI.new, fun x r s cs2 ex hc2 => hI.row x r s cs2 ex (hother x cs2 (hne x r s ex) hc2),
    fun x r s es t ex hg2 => hI.map x r s es t ex (by rw [hget, if_neg (hne x r s ex)] at hg2; exact hg2), fun b1 b2 r s1 s2 e1 e2 hn hlo2 hl1 hl2 => ?_, fun b1 b2 c1 cs1 cs2 f1 r s1 s2 hg1 hc1 e1 e2 hg2 hle' => ?_, fun b1 cs1 c1 t f1 hg1 hc1 => ?_, fun b1 cs1 c1 hg1 => ?_,
    fun x r s m t seen d ex hg2 => hI.itr x r s m t seen d ex (by rw [hget, if_neg (hne x r s ex)] at hg2; exact hg2), fun b1 b2 r s1 s2 e1 e2 i1 i2 => hI.its b1 b2 r s1 s2 e1 e2 (by unfold Heap.isItr at i1 ⊢; rw [hget, if_neg (hne _ _ _ e1)] at i1; exact i1) (by unfold Heap.isItr at i2 ⊢; rw [hget, if_neg (hne _ _ _ e2)] at i2; exact i2)⟩
  · obtain ⟨c2, y1, y2, k1, k2⟩ := hI.sep b1 b2 r s1 s2 e1 e2 hn hlo2 (hlive b1 (hne _ _ _ e1) hl1) (hlive b2 (hne _ _ _ e2) hl2)
    exact ⟨c2, y1, y2, by rw [hget, if_neg (hne _ _ _ e1)]; exact k1, by rw [hget, if_neg (hne _ _ _ e2)]; exact k2⟩
  · rw [hget, if_neg (hne _ _ _ e1)] at hg1
    rw [hget, if_neg (hne _ _ _ e2)] at hg2
    by_cases ec : c1 = cl
    · subst ec
      rw [hcls, if_pos rfl] at hc1; cases hc1
      exact absurd rfl (hne _ _ _ e1)
    · rw [hcls, if_neg ec] at hc1
      exact hI.tip b1 b2 c1 cs1 cs2 f1 r s1 s2 hg1 hc1 e1 e2 hg2 hle'
  · rw [hget] at hg1
    rw [hcls] at hc1
    by_cases ec : c1 = cl
    · subst ec
      rw [if_pos rfl] at hc1; cases hc1
      split at hg1
      · omega
      · exact Nat.le_of_lt (Heap.get_lt hg1)
    · rw [if_neg ec] at hc1
      split at hg1
      · cases hg1; exact absurd rfl ec
      · exact hI.clt b1 cs1 c1 t f1 hg1 hc1
  · rw [hget] at hg1
    rw [hcls]
    by_cases ec : c1 = cl
    · exact ⟨_, if_pos ec⟩
    · rw [if_neg ec]
      split at hg1
      · cases hg1; exact absurd rfl ec
      · exact hI.clm b1 cs1 c1 hg1
theorem Inv.extAlloc (hI : Inv lo n0 w0 ρ h w) {b cl fl fl' : Nat} {cs : List Value} {c : Array Value} (t : TypeId) (hcl : h.cl cl = some (b, fl)) (hf : fl' = fl ∨ fl' = h.n) (hfl : fl ≤ b) (hb : b < h.n)
    (hl : cs.length ≤ c.size) (hv : ∀ i, i < cs.length → VR ρ w (cs.getD i undef) (c.getD i undef) ∧ cell1 (cs.getD i undef) = true) :
    Inv lo n0 w0 (Rho.set ρ h.n w.heap.size 0) (h.extC cl fl' cs) (w.alloc (.cells c t)) ∧ Ext ρ (Rho.set ρ h.n w.heap.size 0) h (h.extC cl fl' cs) w (w.alloc (.cells c t)) := by
  have hget : ∀ x, (h.extC cl fl' cs).get x = if x = h.n then some (.row cs (some cl)) else h.get x := Heap.get_extC h cl fl' cs
  have hcells : (h.extC cl fl' cs).cells h.n = some cs := by
    unfold Heap.cells; rw [hget, if_pos rfl]; simp only [Heap.cl_extC hcl, if_true]
    rw [if_pos (by rcases hf with rfl | rfl <;> omega)]
  obtain ⟨a1, a2, a3, a4⟩ := (hI.extPush (new := cs) hcl hf).tell (b := h.n) (by show h.n < h.n + 1; omega) hI.lon hI.none_n (.cells c t) (fun cs' hc => by
    rw [hcells] at hc; cases hc; exact ⟨c, t, rfl, hl, hv⟩) (fun es t' hc => by rw [hget, if_pos rfl] at hc; cases hc) (fun _ _ _ _ hc => by rw [hget, if_pos rfl] at hc; cases hc)
  exact ⟨a1, a2, a3, by show h.n ≤ h.n + 1; omega, fun x hx hr => ⟨a4 x (Nat.ne_of_lt hx) hr, by rw [hget, if_neg (Nat.ne_of_lt hx)]⟩⟩
theorem growBy_le (n : Nat) : ∀ (r c : Nat), Builtin.growBy n r c ≤ max c (n + (n + 768) / 4)
  | 0, c => by simp [Builtin.growBy]; omega
  | r + 1, c => by
    unfold Builtin.growBy
    split
    · omega
    · have := growBy_le n r (c + (c + 768) / 4)
      omega
theorem nextcap_le {need cap : Nat} (h : cap < need) : Builtin.nextslicecap need cap ≤ 2 * need := by
  unfold Builtin.nextslicecap
  split
  · omega
  · split
    · omega
    · have := growBy_le need 4 cap
      omega
theorem run_cap (need cap : Nat) (el : TypeId) : ∃ nc, need ≤ nc ∧ (choose (.appendCap need cap el)).run P w = .ok nc w.drew := by
  exact ⟨need + w.tape w.drawn (.appendCap need cap el) % (2 ^ 63 - need), Nat.le_add_right need _, rfl⟩
theorem new_run {esz : Nat} {x x' : Value} {new : List Value} {n : Nat} (hI : Inv lo n0 w0 ρ h w) (hv : VR ρ w x x') (hn : newCells h esz x = some (new, n)) :
    (Builtin.lenOf x').run P w = .ok n w ∧ (∃ arr, (Builtin.firstCells esz n x').run P w = .ok arr w ∧ VRl ρ w new arr.toList ∧ arr.toList.length = n * esz) ∧ (∀ y ∈ new, cell1 y = true) ∧ new.length = n * esz ∧ ∃ a c, x' = .slice a n c := by
  cases x <;> simp only [newCells] at hn <;> (try (cases hn; done))
  rename_i a m c
  cases a with
  | none =>
    simp only at hn
    split at hn
    · rename_i e0
      subst e0; cases hn
      cases hv
      exact ⟨by simp [Builtin.lenOf], ⟨#[], by simp [Builtin.firstCells], .nil _ _, by simp⟩, fun y hy => absurd hy (by simp), by simp, ⟨_, _, rfl⟩⟩
    · cases hn
  | some ad =>
    obtain ⟨b, o, z⟩ := ad
    simp only at hn
    split at hn
    · rename_i e0
      subst e0; cases hn
      obtain ⟨a, c', hx⟩ : ∃ a c', x' = .slice (some a) 0 c' := by cases hv <;> exact ⟨_, _, rfl⟩
      subst hx
      exact ⟨by simp [Builtin.lenOf], ⟨#[], by simp [Builtin.firstCells, loadCells, loadCellsFrom], .nil _ _, by simp⟩, fun y hy => absurd hy (by simp), by simp, ⟨_, _, rfl⟩⟩
    · rename_i hm0
      obtain ⟨l, hl, e2⟩ := Option.map_eq_some_iff.1 hn
      cases e2
      obtain ⟨r, s, c', hx, hρ⟩ : ∃ r s c', x' = .slice (some ⟨r, s + o, none⟩) n c' ∧ ρ b = some (r, s) := by
        cases hv with
        | sle _ r s _ _ _ hρ => exact ⟨_, _, _, rfl, hρ⟩
        | sli _ r s _ _ _ _ _ hρ => exact ⟨_, _, _, rfl, hρ⟩
        | slz => exact absurd rfl hm0
        | sez => exact absurd rfl hm0
      subst hx
      obtain ⟨l', k1, k2, k3, k4, _⟩ := hI.rd (P := P) hρ hl
      exact ⟨by simp [Builtin.lenOf], ⟨l', by simpa [Builtin.firstCells] using k1, k2, by rw [← k2.1]; exact k3⟩, k4, k3, ⟨_, _, rfl⟩⟩
section run
variable {st xt el : TypeId} {esz bytes : Nat} {zi : TypeInfo} {z : Value}
theorem run_room (hst : P.underlying st = some (.slice el)) (hxt : ∃ k, P.underlying xt = some (.slice k)) (hs : sizeT P el = some esz) {base : Option Addr} {len cap n : Nat} {x' : Value} {arr : Array Value} {w2 : World}
    (hln : (Builtin.lenOf x').run P w = .ok n w) (hfc : (Builtin.firstCells esz n x').run P w = .ok arr w) (hle : len + n ≤ cap)
    (hst2 : (match base with | some a => storeCells (a.add (len * esz)) arr.toList | none => pure ()).run P w = .ok () w2) :
    (Builtin.append_ #[st, xt] type #[.slice base len cap, x']).run P w = .ok (.slice base (len + n) cap) w2 := by
  obtain ⟨k, hk⟩ := hxt
  unfold Builtin.append_
  simp only [List.getElem?_toArray, List.getElem?_cons_zero, List.getElem?_cons_succ, Sem.run_bind, run_under hst, run_under hk, Result.andThen_ok, run_size hs, Sem.run_pure, Bool.false_eq_true, if_false, hln, Bool.not_false, if_true, Sem.run_ite, hle, hfc]
  cases base with
  | none => simp only [Sem.run_pure] at hst2; cases hst2; simp only [Sem.run_pure, Result.andThen_ok, hfc, Sem.run_bind]
  | some a => simp only at hst2; simp only [Sem.run_bind, hfc, Result.andThen_ok, hst2, Sem.run_pure]
theorem run_noroom (hst : P.underlying st = some (.slice el)) (hxt : ∃ k, P.underlying xt = some (.slice k)) (hs : sizeT P el = some esz) (hb : bytesT P el = some bytes) (hb0 : 0 < bytes) (hz : zeroT P el = some z) {base : Option Addr} {len cap n : Nat} {x' : Value} {old arr : Array Value}
    (hln : (Builtin.lenOf x').run P w = .ok n w) (hfo : ∀ w', w'.heap = w.heap → (Builtin.firstCells esz len (.slice base len cap)).run P w' = .ok old w') (hfc : ∀ w', w'.heap = w.heap → (Builtin.firstCells esz n x').run P w' = .ok arr w') (hlt : cap < len + n) (hbd : (len + n) * bytes ≤ 2 ^ 47) :
    ∃ rest nc, len + n ≤ nc ∧ (Builtin.append_ #[st, xt] type #[.slice base len cap, x']).run P w = .ok (.slice (some ⟨w.heap.size, 0, none⟩) (len + n) nc) (w.drew.alloc (.cells (old ++ arr ++ rest) el)) ∧ rest.size = (nc - (len + n)) * z.cells.size := by
  obtain ⟨k, hk⟩ := hxt
  obtain ⟨nc, hnc, hch⟩ := run_cap (P := P) (w := w) (len + n) cap el
  obtain ⟨i, hi, hib⟩ := run_bytes (w := w) hb
  have hi' : ∀ w', (typeInfo el).run P w' = .ok i w' := by
    intro w'
    unfold bytesT at hb
    obtain ⟨j, hj, _⟩ := Option.map_eq_some_iff.1 hb
    have h1 := run_info (P := P) (w := w) hj
    rw [hi] at h1; cases h1
    exact run_info hj
  have hdr : w.drew.heap = w.heap := rfl
  refine ⟨Builtin.zeroCells z.cells (nc - (len + n)), nc, hnc, ?_, by simp [Builtin.zeroCells]⟩
  have hncap := nextcap_le hlt
  have hbig : ¬ (Builtin.nextslicecap (len + n) cap * bytes > 2 ^ 48) := by
    have h1 : Builtin.nextslicecap (len + n) cap * bytes ≤ 2 * (len + n) * bytes := Nat.mul_le_mul_right _ hncap
    rw [Nat.mul_assoc] at h1
    omega
  have hnle : ¬ (len + n ≤ cap) := by omega
  unfold Builtin.append_
  simp only [List.getElem?_toArray, List.getElem?_cons_zero, List.getElem?_cons_succ, Sem.run_bind, run_under hst, run_under hk, Result.andThen_ok, run_size hs, Sem.run_pure, Bool.false_eq_true, if_false, hln, Bool.not_false, if_true, Sem.run_ite, hnle, hi', hib, false_or, Nat.ne_of_gt hb0, and_false, hbig, hch, run_askRoom, hfo w.drew hdr, hfc w.drew hdr, run_zero hz, run_newRow]
  rfl
end run
theorem firstCells_heap {P : Program} {esz n : Nat} {x' : Value} {arr : Array Value} {a : Option Addr} {c m : Nat} (hx : x' = .slice a m c) (hs : ∀ b, a = some b → n * esz = 0 ∨ ∃ r o, b = ⟨r, o, none⟩) (h1 : (Builtin.firstCells esz n x').run P w = .ok arr w)
    (hrd : ∀ b, a = some b → n * esz = 0 ∨ ∃ cc e fz, w.heap[b.block]? = some (.cells cc e fz) ∧ b.off + n * esz ≤ cc.size) : ∀ w', w'.heap = w.heap → (Builtin.firstCells esz n x').run P w' = .ok arr w' := by
  intro w' hw
  subst hx
  cases a with
  | none => simp only [Builtin.firstCells, Sem.run_pure] at h1 ⊢; cases h1; rfl
  | some b =>
    rcases hs b rfl with h0 | ⟨r, o, rfl⟩
    · simp only [Builtin.firstCells, h0, loadCells, loadCellsFrom, Sem.run_pure] at h1 ⊢; cases h1; rfl
    rcases hrd _ rfl with h0 | ⟨cc, e, fz, k1, k2⟩
    · simp only [Builtin.firstCells, h0, loadCells, loadCellsFrom, Sem.run_pure] at h1 ⊢; cases h1; rfl
    · simp only [Builtin.firstCells] at h1 ⊢
      obtain ⟨l, q1, q2⟩ := run_loadCells (P := P) k1 k2
      obtain ⟨l2, q3, q4⟩ := run_loadCells (P := P) (w := w') (hw ▸ k1) k2
      rw [q1] at h1; cases h1
      rw [q3]
      have : l2 = arr := by
        apply Array.toList_inj.1; rw [q4, q2]
      rw [this]
theorem Inv.rowsz (hI : Inv lo n0 w0 ρ h w) {b r s o n : Nat} {l : List Value} (hρ : ρ b = some (r, s)) (hl : h.rd b o n = some l) : ∃ cc e fz, w.heap[r]? = some (.cells cc e fz) ∧ s + o + n ≤ cc.size := by
  unfold Heap.rd at hl
  split at hl
  · rename_i cs hc
    split at hl
    · rename_i hle
      obtain ⟨c, e, fz, h1, h2, h3, h4⟩ := hI.row b r s cs hρ hc
      exact ⟨c, e, fz, h1, by omega⟩
    · cases hl
  · cases hl
theorem VRl.rows {cs : List Value} {old arr rest : Array Value} (hv : VRl ρ w cs (old.toList ++ arr.toList)) (h1 : ∀ x ∈ cs, cell1 x = true) :
    cs.length ≤ (old ++ arr ++ rest).size ∧ ∀ i, i < cs.length → VR ρ w (cs.getD i undef) ((old ++ arr ++ rest).getD i undef) ∧ cell1 (cs.getD i undef) = true := by
  have hl : cs.length = old.size + arr.size := by have := hv.1; simpa using this
  refine ⟨by simp; omega, fun i hi => ⟨?_, ?_⟩⟩
  · have := hv.2 i hi
    rw [getD_toList]
    have e1 : (old ++ arr ++ rest).toList.getD i undef = (old.toList ++ arr.toList).getD i undef := by
      simp only [List.getD_eq_getElem?_getD, Array.toList_append]
      rw [List.getElem?_append_left (by simp; omega)]
    rw [e1]; exact this
  · have := h1 (cs.getD i undef) (by rw [List.getD_eq_getElem?_getD, List.getElem?_eq_getElem hi]; simp)
    exact this
theorem vr_fresh {old arr rest : Array Value} {el : TypeId} {need nc esz : Nat} (h : Heap) (ρ : Rho) (w : World) (h1 : (old ++ arr).size = need * esz) (h2 : rest.size = (nc - need) * esz) (h3 : need ≤ nc) :
    VR (Rho.set ρ h.n w.heap.size 0) (w.drew.alloc (.cells (old ++ arr ++ rest) el)) (.slice (some ⟨h.n, 0, some esz⟩) need need) (.slice (some ⟨w.heap.size, 0, none⟩) need nc) := by
  have hsz : rowSize (w.drew.alloc (.cells (old ++ arr ++ rest) el)) w.heap.size = (old ++ arr ++ rest).size := by
    unfold rowSize; show (match (w.heap.push _)[w.heap.size]? with | some (.cells c _ _) => c.size | _ => 0) = _; simp
  have := VR.sli (w := w.drew.alloc (.cells (old ++ arr ++ rest) el)) h.n w.heap.size 0 0 need need nc esz (rho_new ρ h.n w.heap.size 0) h3 (by
    rw [hsz, Array.size_append, h1, h2, ← Nat.add_mul]
    have : need + (nc - need) = nc := by omega
    rw [this]; omega)
  simpa using this
theorem good_append {st xt el : TypeId} {esz bytes : Nat} {z : Value} (hI : Inv lo n0 w0 ρ h w) (hst : P.underlying st = some (.slice el)) (hxt : ∃ k, P.underlying xt = some (.slice k)) (hs : sizeT P el = some esz) (hb : bytesT P el = some bytes) (he0 : 0 < esz) (hb0 : 0 < bytes) (hz : zeroT P el = some z) (hzs : z.cells.size = esz)
    {s x s' x' : Value} (hv1 : VR ρ w s s') (hv2 : VR ρ w x x') (hx : appendOf lo h esz bytes s x = some (v, h')) : Good lo n0 w0 P ρ h w (do pure (.value (← Builtin.append_ #[st, xt] type #[s', x']))) v h' := by
  unfold appendOf at hx
  split at hx
  · rename_i base len cap new n hnew
    obtain ⟨hln, ⟨arr, hfc, hva, harl⟩, h1n, hnl, ax, cx, hxs⟩ := new_run (P := P) hI hv2 hnew
    have hasz : arr.size = n * esz := by simpa using harl
    have hfc' : ∀ w', w'.heap = w.heap → (Builtin.firstCells esz n x').run P w' = .ok arr w' := by
      cases x <;> simp only [newCells] at hnew <;> (try (cases hnew; done))
      rename_i a m c
      cases a with
      | none =>
        cases hv2
        exact firstCells_heap (a := none) rfl (fun b e => by cases e) hfc (fun b e => by cases e)
      | some ad =>
        obtain ⟨b, o, zz⟩ := ad
        simp only at hnew
        split at hnew
        · rename_i e0; subst e0; cases hnew
          obtain ⟨a2, c', hx2⟩ : ∃ a c', x' = .slice (some a) 0 c' := by cases hv2 <;> exact ⟨_, _, rfl⟩
          exact firstCells_heap hx2 (fun b e => .inl (by simp)) hfc (fun b e => .inl (by simp))
        · rename_i hm0
          obtain ⟨l, hl, e2⟩ := Option.map_eq_some_iff.1 hnew
          cases e2
          obtain ⟨r, s2, c', hx2, hρ⟩ : ∃ r s2 c', x' = .slice (some ⟨r, s2 + o, none⟩) n c' ∧ ρ b = some (r, s2) := by
            cases hv2 with
            | sle _ r s _ _ _ hρ => exact ⟨_, _, _, rfl, hρ⟩
            | sli _ r s _ _ _ _ _ hρ => exact ⟨_, _, _, rfl, hρ⟩
            | slz => exact absurd rfl hm0
            | sez => exact absurd rfl hm0
          obtain ⟨cc, ee, fz, q1, q2⟩ := hI.rowsz hρ hl
          exact firstCells_heap hx2 (fun b e => by cases e; exact .inr ⟨_, _, rfl⟩) hfc (fun b e => by cases e; exact .inr ⟨cc, ee, fz, q1, q2⟩)
    have harr1 : ∀ y ∈ arr.toList, cell1 y = true := by
      intro y hy
      obtain ⟨i, hi, rfl⟩ := List.getElem_of_mem hy
      have hi2 : i < new.length := by rw [hva.1]; exact hi
      have := hva.2 i hi2
      simp only [List.getD_eq_getElem?_getD, List.getElem?_eq_getElem hi, List.getElem?_eq_getElem hi2, Option.getD_some] at this
      exact this.cell1 (h1n _ (List.getElem_mem hi2))
    simp only at hx
    split at hx
    · rename_i hle
      split at hx
      · rename_i b o zz
        split at hx
        · rename_i hn0
          subst hn0; cases hx
          simp only [Nat.add_zero] at hle ⊢
          have harr : arr = #[] := by
            apply Array.toList_inj.1
            exact List.length_eq_zero_iff.1 (by rw [harl]; simp)
          obtain ⟨a', cap', hs', hcap⟩ : ∃ a' cap', s' = .slice (some a') len cap' ∧ len ≤ cap' := by
            cases hv1 with
            | sle => exact ⟨_, _, rfl, hle⟩
            | sli _ _ _ _ _ _ _ _ _ hc => exact ⟨_, _, rfl, Nat.le_trans hle hc⟩
            | slz => exact ⟨_, _, rfl, Nat.le_refl _⟩
            | sez => exact ⟨_, _, rfl, Nat.le_refl _⟩
          subst hs'
          have := run_room (P := P) (w := w) (type := type) hst hxt hs (base := some a') (len := len) (cap := cap') (w2 := w) hln hfc (by omega) (by rw [harr]; simp [storeCells])
          exact good_p hI this hv1
        · rename_i hn0
          obtain ⟨h2, hw2, e2⟩ := Option.map_eq_some_iff.1 hx
          cases e2
          have hpos : 0 < len + n := by omega
          obtain ⟨r, s0, cap', hs', hcap, hρ, hmk⟩ : ∃ r s0 cap', s' = .slice (some ⟨r, s0 + o, none⟩) len cap' ∧ cap ≤ cap' ∧ ρ b = some (r, s0) ∧
              ∀ (w2 : World) (m : Nat), (∀ r, rowSize w r ≤ rowSize w2 r) → VR ρ w2 (.slice (some ⟨b, o, zz⟩) m cap) (.slice (some ⟨r, s0 + o, none⟩) m cap') := by
            cases hv1 with
            | sle _ r s _ _ _ hρ => exact ⟨_, _, _, rfl, Nat.le_refl _, hρ, fun _ _ _ => .sle _ _ _ _ _ _ hρ⟩
            | sli _ r s _ _ _ _ _ hρ hc hr => exact ⟨_, _, _, rfl, hc, hρ, fun w2 m hsz => .sli _ _ _ _ _ _ _ _ hρ hc (Nat.le_trans hr (hsz _))⟩
            | slz => omega
            | sez => omega
          obtain ⟨w2, q1, q2, q3⟩ := hI.wr (P := P) hρ hw2 hva h1n harr1
          have hrun := run_room (P := P) (w := w) (type := type) hst hxt hs (base := some ⟨r, s0 + o, none⟩) (len := len) (cap := cap') (w2 := w2) hln hfc (by omega) (by
            simp only [add_off]; rw [Nat.add_assoc]; exact q1)
          subst hs'
          exact good_v hrun q2 q3 (hmk w2 (len + n) q3.sz)
      · split at hx
        · rename_i hn0
          cases hx
          have : len = 0 ∧ n = 0 := by omega
          obtain ⟨rfl, rfl⟩ := this
          cases hv1
          have harr : arr = #[] := by
            apply Array.toList_inj.1
            exact List.length_eq_zero_iff.1 (by rw [harl]; simp)
          have := run_room (P := P) (w := w) (type := type) hst hxt hs (base := none) (len := 0) (cap := 0) (w2 := w) hln hfc (by omega) (by simp)
          exact good_p hI this .nils
        · cases hx
    · rename_i hnle
      split at hx
      · rename_i hbd
        have hDrew := hI.drew
        have hdr0 : w.drew.heap = w.heap := rfl
        split at hx
        ·
          split at hx
          · rename_i hl0
            subst hl0; cases hx
            cases hv1
            obtain ⟨rest, nc, k1, k2, k3⟩ := run_noroom (P := P) (w := w) (type := type) hst hxt hs hb hb0 hz (base := none) (len := 0) (cap := 0) (old := #[]) hln (fun w' _ => by simp [Builtin.firstCells]) hfc' (by omega) hbd
            have hva' : VRl ρ w.drew new ((#[] : Array Value).toList ++ arr.toList) := VRl.mono (w' := w.drew) (fun _ _ x => x) (fun r => Nat.le_refl (rowSize w r)) hva
            obtain ⟨q1, q2⟩ := hva'.rows (rest := rest) h1n
            obtain ⟨a1, a2⟩ := hDrew.alloc el q1 q2 (.inr rfl)
            refine good_v k2 a1 ⟨a2.le, a2.sz, a2.n, a2.keep⟩ (vr_fresh (old := #[]) (arr := arr) (rest := rest) (need := 0 + n) (nc := nc) (esz := esz) h ρ w (by simp [hasz]) (by rw [k3, hzs]) k1)
          · cases hx
        ·
          rename_i b o
          split at hx
          · rename_i old hold
            cases hx
            obtain ⟨a', hs', hold2⟩ : ∃ a', s' = .slice (some a') len cap ∧ ∃ oa : Array Value, VRl ρ w old oa.toList ∧ oa.size = len * esz ∧ (∀ y ∈ old, cell1 y = true) ∧ ∀ w', w'.heap = w.heap → (Builtin.firstCells esz len s').run P w' = .ok oa w' := by
              cases hv1 with
              | sle _ r s _ _ _ hρ =>
                obtain ⟨l', q1, q2, q3, q4, _⟩ := hI.rd (P := P) hρ hold
                obtain ⟨cc, ee, fz, q5, q6⟩ := hI.rowsz hρ hold
                exact ⟨_, rfl, l', q2, by have := q2.1; simp at this; omega, q4, firstCells_heap rfl (fun b e => by cases e; exact .inr ⟨_, _, rfl⟩) (by simpa [Builtin.firstCells] using q1) (fun b e => by cases e; exact .inr ⟨cc, ee, fz, q5, q6⟩)⟩
              | sez =>
                have hl0 : old = [] := by
                  unfold Heap.rd at hold
                  split at hold
                  · split at hold
                    · cases hold; simp
                    · cases hold
                  · cases hold
                subst hl0
                exact ⟨_, rfl, #[], .nil _ _, by simp, fun y hy => absurd hy (by simp), fun w' _ => by simp [Builtin.firstCells, loadCells, loadCellsFrom]⟩
            obtain ⟨oa, o1, o2, o3, o4⟩ := hold2
            subst hs'
            obtain ⟨rest, nc, k1, k2, k3⟩ := run_noroom (P := P) (w := w) (type := type) hst hxt hs hb hb0 hz (base := some a') (len := len) (cap := cap) (old := oa) hln o4 hfc' (by omega) hbd
            have hva' : VRl ρ w.drew (old ++ new) (oa.toList ++ arr.toList) := VRl.mono (w' := w.drew) (fun _ _ x => x) (fun r => Nat.le_refl (rowSize w r)) (o1.append hva)
            obtain ⟨q1, q2⟩ := hva'.rows (rest := rest) (fun y hy => by
              rcases List.mem_append.1 hy with hy | hy
              · exact o3 y hy
              · exact h1n y hy)
            obtain ⟨a1, a2⟩ := hDrew.alloc el q1 q2 (.inr rfl)
            refine good_v k2 a1 ⟨a2.le, a2.sz, a2.n, a2.keep⟩ (vr_fresh (old := oa) (arr := arr) (rest := rest) (need := len + n) (nc := nc) h ρ w (by simp [hasz, o2, Nat.add_mul]) (by rw [k3, hzs]) k1)
          · cases hx
        ·
          rename_i b o e1
          split at hx
          · cases hx
          · rename_i hcond
            have he1 : e1 = esz := by
              rcases Nat.decEq e1 esz with h | h
              · exact absurd (.inl h) hcond
              · exact h
            have hlo : lo ≤ b := Nat.le_of_not_lt fun h => hcond (.inr h)
            subst he1
            split at hx
            · rename_i cs cl old hg hold
              split at hx
              · rename_i tip fl hcl
                split at hx
                · rename_i htip
                  subst htip
                  cases hx
                  have hfl : fl ≤ tip ∧ h.cells tip = some cs := by
                    have hc2 : ∃ c2, h.cells tip = some c2 := by
                      unfold Heap.rd at hold; split at hold
                      · exact ⟨_, by assumption⟩
                      · cases hold
                    obtain ⟨c2, hc2⟩ := hc2
                    rcases Heap.cells_some hc2 with h3 | ⟨c3, t3, f3, h3, h4, h5⟩
                    · rw [hg] at h3; cases h3
                    · rw [hg] at h3; cases h3
                      rw [hcl] at h4; cases h4
                      exact ⟨h5, hc2⟩
                  have hf' : (if o + len * e1 = cs.length then fl else h.n) = fl ∨ (if o + len * e1 = cs.length then fl else h.n) = h.n := by split <;> simp
                  have realloc : ∀ (a' : Addr) (cap' : Nat), s' = .slice (some a') len cap' → cap' < len + n → (∃ oa : Array Value, VRl ρ w old oa.toList ∧ oa.size = len * e1 ∧ (∀ y ∈ old, cell1 y = true) ∧ ∀ w', w'.heap = w.heap → (Builtin.firstCells e1 len s').run P w' = .ok oa w') →
                      Good lo n0 w0 P ρ h w (do pure (.value (← Builtin.append_ #[st, xt] type #[s', x']))) (.slice (some ⟨h.n, 0, some e1⟩) (len + n) (len + n)) (h.extC cl (if o + len * e1 = cs.length then fl else h.n) (old ++ new)) := by
                    rintro a' cap' rfl hlt ⟨oa, o1, o2, o3, o4⟩
                    obtain ⟨rest, nc, k1, k2, k3⟩ := run_noroom (P := P) (w := w) (type := type) hst hxt hs hb hb0 hz (base := some a') (len := len) (cap := cap') (old := oa) hln o4 hfc' hlt hbd
                    have hva' : VRl ρ w.drew (old ++ new) (oa.toList ++ arr.toList) := VRl.mono (w' := w.drew) (fun _ _ x => x) (fun r => Nat.le_refl (rowSize w r)) (o1.append hva)
                    obtain ⟨q1, q2⟩ := hva'.rows (rest := rest) (fun y hy => by
                      rcases List.mem_append.1 hy with hy | hy
                      · exact o3 y hy
                      · exact h1n y hy)
                    obtain ⟨a1, a2⟩ := hDrew.extAlloc el hcl hf' hfl.1 (Heap.get_lt hg) q1 q2
                    refine good_v k2 a1 ⟨a2.le, a2.sz, a2.n, a2.keep⟩ (vr_fresh (old := oa) (arr := arr) (rest := rest) (need := len + n) (nc := nc) h ρ w (by simp [hasz, o2, Nat.add_mul]) (by rw [k3, hzs]) k1)
                  cases hv1 with
                  | sli _ r s0 _ _ _ cap' _ hρ hc hr =>
                    obtain ⟨l', q1, q2, q3, q4, _⟩ := hI.rd (P := P) hρ hold
                    obtain ⟨cc, ee, fz, q5, q6⟩ := hI.rowsz hρ hold
                    have hfo := firstCells_heap (P := P) (esz := e1) (n := len) (m := len) (c := cap') (a := some ⟨r, s0 + o, none⟩) rfl (fun b e => by cases e; exact .inr ⟨_, _, rfl⟩) (by simpa [Builtin.firstCells] using q1) (fun b e => by cases e; exact .inr ⟨cc, ee, fz, q5, q6⟩)
                    have hl'sz : l'.size = len * e1 := by have := q2.1; simp at this; omega
                    by_cases hroom : len + n ≤ cap'
                    ·
                      obtain ⟨c0, e0, fz0, r1, r2, r3, r4⟩ := hI.row _ _ _ _ hρ hfl.2
                      obtain rfl := r2 hlo
                      have hcs : o + len * e1 ≤ cs.length := by
                        unfold Heap.rd at hold
                        rw [hfl.2] at hold
                        simp only at hold
                        split at hold
                        · assumption
                        · cases hold
                      have hrow : s0 + o + cap' * e1 ≤ c0.size := by
                        have : rowSize w r = c0.size := by unfold rowSize; rw [r1]
                        omega
                      have hmul : (len + n) * e1 ≤ cap' * e1 := Nat.mul_le_mul_right _ hroom
                      rw [Nat.add_mul] at hmul
                      have harr2 : arr.toList.length = n * e1 := harl
                      have hfit : s0 + o + len * e1 + arr.toList.length ≤ c0.size := by omega
                      have hst2 := run_storeCells (P := P) r1 (o := s0 + o + len * e1) (vs := arr.toList) hfit harr1
                      have hrun := run_room (P := P) (w := w) (type := type) hst hxt hs (base := some ⟨r, s0 + o, none⟩) (len := len) (cap := cap') (w2 := setRow w r (.cells (spliceA c0 (s0 + o + len * e1) arr.toList) e0 (0, 0))) hln hfc hroom (by simp only [add_off]; exact hst2)
                      have hlen2 : (old ++ new).length = len * e1 + n * e1 := by rw [List.length_append, q3, hnl]
                      obtain ⟨a1, a2⟩ := hI.grow (new := old ++ new) (fl' := if o + len * e1 = cs.length then fl else h.n) (off := o) hlo hρ hg hcl hfl.1 r1 (spliceA_size arr.toList c0 (s0 + o + len * e1)) (by
                        by_cases hend : o + len * e1 = cs.length
                        · left
                          rw [if_pos hend]
                          refine ⟨rfl, by omega, fun j hj => ?_⟩
                          rw [spliceA_get _ _ _ hfit, if_neg (by omega)]
                        · right; rw [if_neg hend]) (by omega) (fun i hi => by
                        rw [hlen2] at hi
                        rw [spliceA_get _ _ _ hfit]
                        simp only [List.getD_eq_getElem?_getD]
                        by_cases hi1 : i < len * e1
                        · rw [List.getElem?_append_left (by omega), if_neg (by omega)]
                          have h5 : old.getD i undef = cs.getD (o + i) undef := by
                            unfold Heap.rd at hold
                            rw [hfl.2] at hold
                            simp only at hold
                            rw [if_pos hcs] at hold
                            cases hold
                            exact getD_drop_take _ _ _ _ hi1
                          rw [List.getD_eq_getElem?_getD] at h5
                          rw [h5]
                          have := r4 (o + i) (by omega)
                          rw [← Nat.add_assoc] at this
                          exact this
                        · rw [List.getElem?_append_right (by omega), q3, if_pos (by omega)]
                          have h6 : s0 + o + i - (s0 + o + len * e1) = i - len * e1 := by omega
                          rw [h6]
                          have := hva.2 (i - len * e1) (by omega)
                          simp only [List.getD_eq_getElem?_getD] at this
                          refine ⟨this, h1n _ ?_⟩
                          rw [List.getElem?_eq_getElem (by omega)]
                          simp)
                      refine good_v hrun a1 a2 ?_
                      have hsz2 : rowSize (setRow w r (.cells (spliceA c0 (s0 + o + len * e1) arr.toList) e0 (0, 0))) r = c0.size := by
                        rw [rowSize_setRow r1 (spliceA_size _ _ _)]; unfold rowSize; rw [r1]
                      have := VR.sli (w := setRow w r (.cells (spliceA c0 (s0 + o + len * e1) arr.toList) e0 (0, 0))) h.n r (s0 + o) 0 (len + n) (len + n) cap' e1 (rho_new ρ h.n r (s0 + o)) hroom (by rw [hsz2]; omega)
                      simpa using this
                    · exact realloc _ cap' rfl (by omega) ⟨l', q2, hl'sz, q4, hfo⟩
                  | slz _ _ _ r s0 o' hρ =>
                    have hl0 : old = [] := by
                      unfold Heap.rd at hold
                      split at hold
                      · split at hold
                        · cases hold; simp
                        · cases hold
                      · cases hold
                    subst hl0
                    exact realloc _ 0 rfl (by omega) ⟨#[], .nil _ _, by simp, fun y hy => absurd hy (by simp), fun w' _ => by simp [Builtin.firstCells, loadCells, loadCellsFrom]⟩
                · cases hx
              · cases hx
            · cases hx
      · cases hx
  · cases hx
end
end
end Go.Proofs.Ytlidnionbofkaaa.Hm
namespace Go.Proofs.Ytlidnionbofkaaa.Hm
noncomputable section
open Go Go.RowKit
set_option linter.all false
set_option linter.unusedSimpArgs false
section
variable {lo n0 : Nat} {w0 : World} {ρ : Rho} {h h' : Heap} {w : World} {P : Program} {σ : List Value} {e : Operand → Value} {hop : HOp} {v : Value}
theorem g_append {dst : Option Tmp} {type : TypeId} {pos : String} {after : Array Edge} {guard : Option (Nat × Bool)} {args : Array Operand} {ats : Array TypeId} (hI : Inv lo n0 w0 ρ h w) (hσ : ∀ x, okOp x = true → VR ρ w (ev σ x) (e x)) (hc : compOp P type (.call ⟨.builtin .append, args, ats⟩) = some hop) (hx : xop lo σ h hop = some (v, h')) :
    Good lo n0 w0 P ρ h w (execOp e ⟨dst, .call ⟨.builtin .append, args, ats⟩, type, pos, after, guard⟩) v h' := by
  simp only [compOp] at hc
  split at hc
  · rename_i s x st xt hargs hats
    obtain rfl := two hargs
    obtain rfl := two hats
    split at hc
    · rename_i ho
      split at hc
      · rename_i el xl hst hxt
        split at hc
        · rename_i z b hz hb
          split at hc
          · rename_i hp
            obtain ⟨hp1, hp2, hp3⟩ := hp
            cases hc; simp only [xop, xopE] at hx
            obtain ⟨q, hq, hqs⟩ : ∃ q, zeroT P el = some q ∧ q.cells.size = z := by
              cases hq : zeroT P el with
              | none => rw [hq] at hp3; cases hp3
              | some q => rw [hq] at hp3; exact ⟨q, rfl, by simpa using hp3⟩
            obtain ⟨cs, hex⟩ := ex_b2 (e := e) (dst := dst) (type := type) (pos := pos) (after := after) (guard := guard) (b := .append) (x := s) (y := x) (t := st) (u := xt)
            rw [hex]
            exact good_append hI hst ⟨xl, hxt⟩ hz hb hp1 hp2 hq hqs (hσ s (okOps_mem ho (by simp))) (hσ x (okOps_mem ho (by simp))) hx
          · cases hc
        · cases hc
      · cases hc
    · cases hc
  · cases hc
theorem fn_inv {f : Fn} {a c : Array Value} {y : Value} (h : VR ρ w (.func f a c) y) : ∃ a' c', y = .func f a' c' ∧ VRl ρ w a.toList a'.toList ∧ VRl ρ w c.toList c'.toList := by
  cases h with
  | fn _ _ a' _ c' ha hc hva hvc =>
    exact ⟨a', c', rfl, ⟨by simpa using ha, fun i hi => by have := hva i (by simpa using hi); rwa [getD_toList, getD_toList] at this⟩, ⟨by simpa using hc, fun i hi => by have := hvc i (by simpa using hi); rwa [getD_toList, getD_toList] at this⟩⟩
theorem find_add64 {fn : Func} (h1 : fn.name = "math/bits.Add64") (h2 : fn.origin = "") : Extern.findNext fn = none ∧ Extern.find fn = some add64Entry := by
  obtain ⟨name, origin, targs, params, resultTypes, nfree, ntmps, results, body⟩ := fn
  simp only at h1 h2
  subst h1; subst h2
  exact ⟨by kernel_rfl, by kernel_rfl⟩
theorem VR.int_l {k : IntKind} {n : Int} {y : Value} (h : VR ρ w (.int k n) y) : y = .int k n := by cases h; rfl
theorem g_add64 {dst : Option Tmp} {type : TypeId} {pos : String} {after : Array Edge} {guard : Option (Nat × Bool)} {f : Operand} {args : Array Operand} {ats : Array TypeId} (hI : Inv lo n0 w0 ρ h w) (hσ : ∀ x, okOp x = true → VR ρ w (ev σ x) (e x)) (hc : compOp P type (.call ⟨.value f, args, ats⟩) = some hop) (hnc : ∀ f xs, hop ≠ .call f xs) (hx : xop lo σ h hop = some (v, h')) :
    Good lo n0 w0 P ρ h w (execOp e ⟨dst, .call ⟨.value f, args, ats⟩, type, pos, after, guard⟩) v h' := by
  simp only [compOp] at hc
  split at hc
  · rename_i ho
    split at hc
    · rename_i h64
      split at hc
      · rename_i x y z hxs
        cases hc
        simp only [xop, xopE] at hx
        split at hx
        · rename_i k1 a k2 b k3 c ea eb ec
          split at hx
          · rename_i hc0
            subst hc0
            cases hx
            cases f with
            | func fid =>
              simp only [isAdd64] at h64
              split at h64
              · rename_i fn hfn
                simp only [Bool.and_eq_true, beq_iff_eq] at h64
                obtain ⟨hb, hnm, hor⟩ := h64
                obtain ⟨hf1, hf2⟩ := find_add64 hnm hor
                have hm : ∀ x ∈ args.toList, okOp x = true := fun x hx => okOps_mem ho (by simp [Array.mem_toList_iff.1 hx])
                rw [hxs] at hm
                have vf := hσ (.func fid) rfl
                obtain ⟨a', c', hef, va, vc⟩ := fn_inv vf
                have va0 : a' = #[] := by
                  have := va.1
                  simp at this
                  exact Array.eq_empty_of_size_eq_zero this.symm
                have vc0 : c' = #[] := by
                  have := vc.1
                  simp at this
                  exact Array.eq_empty_of_size_eq_zero this.symm
                subst va0; subst vc0
                have vx := hσ x (hm x (by simp)); rw [ea] at vx
                have vy := hσ y (hm y (by simp)); rw [eb] at vy
                have vz := hσ z (hm z (by simp)); rw [ec] at vz
                have hargs : (#[] ++ args.map e) ++ #[] = #[.int k1 a, .int k2 b, .int k3 0] := by
                  have : args = #[x, y, z] := by cases args; simp_all
                  subst this
                  simp [VR.int_l vx, VR.int_l vy, VR.int_l vz]
                have hrun : (execOp e ⟨dst, .call ⟨.value (.func fid), args, ats⟩, type, pos, after, guard⟩) = callFunc fid ((#[] ++ args.map e) ++ #[]) := by
                  simp only [execOp, resolve, hef, Deferred.ofValue]
                  rfl
                have hr : (callFunc fid #[.int k1 a, .int k2 b, .int k3 0]).run P w = .ok (.value (.tuple #[.int .u64 (Int.ofNat ((a.toNat + b.toNat) % 18446744073709551616)), .int .u64 (Int.ofNat ((a.toNat + b.toNat) / 18446744073709551616))])) w := by
                  rw [run_callFunc_extern hfn (by rw [hnm]; decide) hb hf1 hf2]
                  have h : (add64Entry #[.int k1 a, .int k2 b, .int k3 0]).run P w = .ok (.tuple #[.int .u64 (Int.ofNat ((a.toNat + b.toNat) % 18446744073709551616)), .int .u64 (Int.ofNat ((a.toNat + b.toNat) / 18446744073709551616))]) w := rfl
                  rw [h]
                  rfl
                refine ⟨_, w, ρ, .inl (by rw [hrun, hargs]; exact hr), hI, Ext.refl _ _ _, ?_⟩
                exact .tupL (.cons (.int _ _) (.cons (.int _ _) (.nil _ _)))
              · cases h64
            | tmp t => cases h64
            | const v => cases h64
            | global g => cases h64
          · cases hx
        · cases hx
      · cases hc
    · cases hc; exact absurd rfl (hnc _ _)
  · cases hc
theorem g_mm {dst : Option Tmp} {type : TypeId} {pos : String} {after : Array Edge} {guard : Option (Nat × Bool)} {mx : Bool} {args : Array Operand} {ats : Array TypeId} (hI : Inv lo n0 w0 ρ h w) (hσ : ∀ x, okOp x = true → VR ρ w (ev σ x) (e x)) (hc : compOp P type (.call ⟨.builtin (if mx = true then .max else .min), args, ats⟩) = some hop) (hx : xop lo σ h hop = some (v, h')) :
    Good lo n0 w0 P ρ h w (execOp e ⟨dst, .call ⟨.builtin (if mx = true then .max else .min), args, ats⟩, type, pos, after, guard⟩) v h' := by
  have hc' : ∃ x y, args.toList = [x, y] ∧ okOps [x, y] = true ∧ hop = .mm mx x y := by
    cases mx
    all_goals
      simp only [Bool.false_eq_true, if_false, if_true, compOp] at hc
      split at hc
      · rename_i x y hxs
        split at hc
        · rename_i ho
          cases hc
          exact ⟨x, y, hxs, ho, rfl⟩
        · cases hc
      · cases hc
  obtain ⟨x, y, hxs, ho, rfl⟩ := hc'
  obtain rfl := two hxs
  simp only [xop, xopE] at hx
  split at hx
  · rename_i k1 a k2 b ea eb
    cases hx
    have vx := hσ x (okOps_mem ho (by simp)); rw [ea] at vx
    have vy := hσ y (okOps_mem ho (by simp)); rw [eb] at vy
    rw [call_builtin]
    simp only [List.map_toArray, List.map_cons, List.map_nil, VR.int_l vx, VR.int_l vy]
    cases mx
    · exact good_p hI (s := Builtin.min_ ats type #[.int k1 a, .int k2 b]) (v' := .int k1 (if b < a then b else a)) rfl (.int _ _)
    · exact good_p hI (s := Builtin.max_ ats type #[.int k1 a, .int k2 b]) (v' := .int k1 (if b > a then b else a)) rfl (.int _ _)
  · cases hx
theorem g_clear {dst : Option Tmp} {type : TypeId} {pos : String} {after : Array Edge} {guard : Option (Nat × Bool)} {args : Array Operand} {ats : Array TypeId} (hI : Inv lo n0 w0 ρ h w) (hσ : ∀ x, okOp x = true → VR ρ w (ev σ x) (e x)) (hc : compOp P type (.call ⟨.builtin .clear, args, ats⟩) = some hop) (hx : xop lo σ h hop = some (v, h')) :
    Good lo n0 w0 P ρ h w (execOp e ⟨dst, .call ⟨.builtin .clear, args, ats⟩, type, pos, after, guard⟩) v h' := by
  simp only [compOp] at hc
  split at hc
  · rename_i x t hargs hats
    obtain rfl := one hargs
    obtain rfl := one hats
    split at hc
    · rename_i ho
      have vx := hσ x ho
      rw [ex_b1]
      split at hc
      · rename_i el hel
        split at hc
        · rename_i z hz
          split at hc
          · rename_i hp
            obtain ⟨hp1, hp2, hp3⟩ := hp
            cases hc; simp only [xop, xopE] at hx
            have vt : VR ρ w (.tuple #[]) (.tuple #[]) := .tup #[] #[] rfl (fun i hi => absurd hi (by simp))
            split at hx
            · rename_i n c hs
              cases hx
              rw [hs] at vx
              have he : e x = .slice none 0 0 := by generalize e x = y at vx; cases vx; rfl
              refine good_p hI (s := Builtin.clear_ #[t] type #[e x]) (v' := .tuple #[]) ?_ vt
              rw [he]
              simp [Builtin.clear_, run_under hel]
            · rename_i b o sp n c hs
              rw [hs] at vx
              split at hx
              · rename_i hn
                cases hx
                subst hn
                obtain ⟨a', c', he⟩ : ∃ a' c', e x = .slice (some a') 0 c' := by generalize e x = y at vx; cases vx <;> exact ⟨_, _, rfl⟩
                refine good_p hI (s := Builtin.clear_ #[t] type #[e x]) (v' := .tuple #[]) ?_ vt
                rw [he]
                simp [Builtin.clear_, run_under hel]
              · rename_i hn
                obtain ⟨h2, hw, e2⟩ := Option.map_eq_some_iff.1 hx
                cases e2
                obtain ⟨r, s, c', he, hρ⟩ : ∃ r s c', e x = .slice (some ⟨r, s + o, none⟩) n c' ∧ ρ b = some (r, s) := by
                  generalize e x = y at vx
                  cases vx <;> first
                    | exact absurd rfl hn
                    | exact ⟨_, _, _, rfl, by assumption⟩
                obtain ⟨za, zb⟩ := plainV_cells (ρ := ρ) (w := w) hp1 (nt hp2)
                obtain ⟨r1, r2⟩ := zeros_row z.cells hp3 n za zb
                have r3 : ∀ y ∈ ((Array.range (n * z.cells.size)).map (z.cells[· % z.cells.size]!)).toList, cell1 y = true := by
                  intro y hy
                  obtain ⟨i, hi, rfl⟩ := List.getElem_of_mem hy
                  have hi2 : i < (List.replicate n z.cells.toList).flatten.length := by rw [r1.1]; exact hi
                  have := r1.2 i hi2
                  simp only [List.getD_eq_getElem?_getD, List.getElem?_eq_getElem hi, List.getElem?_eq_getElem hi2, Option.getD_some] at this
                  exact this.cell1 (r2 _ (List.getElem_mem hi2))
                obtain ⟨w', k1, k2, k3⟩ := hI.wr (P := P) hρ hw r1 r2 r3
                refine good_v (s := Builtin.clear_ #[t] type #[e x]) (v' := .tuple #[]) ?_ k2 k3 (.tup #[] #[] rfl (fun i hi => absurd hi (by simp)))
                rw [he]
                obtain ⟨m, rfl⟩ : ∃ m, n = m + 1 := ⟨n - 1, by omega⟩
                have k4 : (storeCells ⟨r, s + o, none⟩ (Builtin.zeroCells z.cells (m + 1)).toList).run P w = .ok () w' := k1
                simp [Builtin.clear_, run_under hel, run_zero hz]
                rw [k4]; rfl
            · cases hx
          · cases hc
        · cases hc
      · rename_i kt et hmp
        cases hc; simp only [xop, xopE] at hx
        have vt : VR ρ w (.tuple #[]) (.tuple #[]) := .tup #[] #[] rfl (fun i hi => absurd hi (by simp))
        split at hx
        · rename_i hs
          cases hx
          rw [hs] at vx
          have he : e x = .map none := by generalize e x = y at vx; cases vx; rfl
          refine good_p hI (s := Builtin.clear_ #[t] type #[e x]) (v' := .tuple #[]) ?_ vt
          rw [he]
          simp [Builtin.clear_, run_under hmp]
        · rename_i b hs
          rw [hs] at vx
          obtain ⟨r, he, hρ⟩ : ∃ r, e x = .map (some r) ∧ ρ b = some (r, 0) := by generalize e x = y at vx; cases vx; exact ⟨_, rfl, by assumption⟩
          split at hx
          · cases hx
          · rename_i hlo
            split at hx
            · rename_i es t0 hg
              cases hx
              obtain ⟨es', h1, h2, h3⟩ := hI.map b r 0 es t0 hρ hg
              obtain ⟨a1, a2⟩ := hI.mput (Nat.le_of_not_lt hlo) hρ hg h1 (es2 := []) (t' := t0) (em' := #[]) rfl (fun i k v a hi => by simp at hi)
              refine good_v (s := Builtin.clear_ #[t] type #[e x]) (v' := .tuple #[]) ?_ a1 a2 (.tup #[] #[] rfl (fun i hi => absurd hi (by simp)))
              rw [he]
              simp [Builtin.clear_, run_under hmp, run_getMap h1, run_setMap h1]
            · cases hx
        · cases hx
      · cases hc
    · cases hc
  · cases hc
theorem g_range {dst : Option Tmp} {type : TypeId} {pos : String} {after : Array Edge} {guard : Option (Nat × Bool)} {t : TypeId} {x : Operand} (hI : Inv lo n0 w0 ρ h w) (hσ : ∀ x, okOp x = true → VR ρ w (ev σ x) (e x)) (hc : compOp P type (.range t x) = some hop) (hx : xop lo σ h hop = some (v, h')) :
    Good lo n0 w0 P ρ h w (execOp e ⟨dst, .range t x, type, pos, after, guard⟩) v h' := by
  simp only [compOp] at hc
  split at hc
  · rename_i ho
    have vx := hσ x ho
    split at hc
    · rename_i kt et hu
      cases hc; simp only [xop, xopE] at hx
      split at hx
      · rename_i hs
        cases hx
        rw [hs] at vx
        have he : e x = .map none := by generalize e x = y at vx; cases vx; rfl
        obtain ⟨a1, a2⟩ := hI.allocItr (m := none) (m' := none) 0 0 .nilm
        refine good_v (s := Instr.range t (e x)) (v' := .pointer (some ⟨w.heap.size, 0, none⟩)) ?_ a1 a2 ?_
        · rw [he]; exact run_range_nilMap w t _ _ hu
        · have := VR.ptr (w := w.alloc (.mapIter none 0 #[] 0)) h.n w.heap.size 0 0 (rho_new ρ h.n w.heap.size 0); simpa using this
      · rename_i b hs
        rw [hs] at vx
        obtain ⟨r, he, hρ⟩ : ∃ r, e x = .map (some r) ∧ ρ b = some (r, 0) := by generalize e x = y at vx; cases vx; exact ⟨_, rfl, by assumption⟩
        split at hx
        · rename_i es t0 hg
          cases hx
          obtain ⟨es', h1, h2, h3⟩ := hI.map b r 0 es t0 hρ hg
          obtain ⟨a1, a2⟩ := hI.allocItr (m := some b) (m' := some r) t0 t0 (.map b r hρ)
          refine good_v (s := Instr.range t (e x)) (v' := .pointer (some ⟨w.heap.size, 0, none⟩)) ?_ a1 a2 ?_
          · rw [he]; exact run_range_map w t _ _ r es' t0 hu h1
          · have := VR.ptr (w := w.alloc (.mapIter (some r) t0 #[] t0)) h.n w.heap.size 0 0 (rho_new ρ h.n w.heap.size 0); simpa using this
        · cases hx
      · cases hx
    · cases hc
  · cases hc
section
variable {es : List (Value × Value × Nat)} {es' : Array MapEntry}
theorem ent_fwd (hl : es.length = es'.size) (hr : ∀ (i : Nat) (k v : Value) (a : Nat), es[i]? = some (k, v, a) → ∃ e : MapEntry, es'[i]? = some e ∧ VR ρ w k e.key ∧ VR ρ w v e.val ∧ e.born = a) {e : MapEntry} (he : e ∈ es') : ∃ k v, (k, v, e.born) ∈ es ∧ VR ρ w k e.key ∧ VR ρ w v e.val := by
  obtain ⟨i, hi, rfl⟩ := Array.getElem_of_mem he
  have hi2 : i < es.length := by omega
  obtain ⟨e', h1, h2, h3, h4⟩ := hr i es[i].1 es[i].2.1 es[i].2.2 (List.getElem?_eq_getElem hi2)
  rw [Array.getElem?_eq_getElem hi] at h1; cases h1
  refine ⟨es[i].1, es[i].2.1, ?_, h2, h3⟩
  rw [h4]; exact List.getElem_mem hi2
theorem ent_bwd (hr : ∀ (i : Nat) (k v : Value) (a : Nat), es[i]? = some (k, v, a) → ∃ e : MapEntry, es'[i]? = some e ∧ VR ρ w k e.key ∧ VR ρ w v e.val ∧ e.born = a) {x : Value × Value × Nat} (he : x ∈ es) : ∃ e ∈ es', e.born = x.2.2 := by
  obtain ⟨i, hi, rfl⟩ := List.getElem_of_mem he
  obtain ⟨e', h1, h2, h3, h4⟩ := hr i es[i].1 es[i].2.1 es[i].2.2 (List.getElem?_eq_getElem hi)
  exact ⟨e', Array.mem_of_getElem? h1, h4⟩
theorem next_cands (hl : es.length = es'.size) (hr : ∀ (i : Nat) (k v : Value) (a : Nat), es[i]? = some (k, v, a) → ∃ e : MapEntry, es'[i]? = some e ∧ VR ρ w k e.key ∧ VR ρ w v e.val ∧ e.born = a) {since last : Nat} {seen : List Nat} {L : List (Option (Value × Value × Nat))} (h : nextL es since seen last = some L)
    {C old new : Array MapEntry} (ho : old = (es'.filter fun e => !(⟨seen⟩ : Array Nat).contains e.born).filter (fun x => decide (x.born < since))) (hn : new = (es'.filter fun e => !(⟨seen⟩ : Array Nat).contains e.born).filter (fun x => decide (x.born ≥ since))) :
    (!(⟨seen⟩ : Array Nat).isEmpty && !es'.isEmpty && es'.all (fun x => decide (x.born ≥ last))) = false ∧ 0 < ((if old.isEmpty then #[none] else #[]) ++ (old ++ new).map some).size ∧
    ∀ c ∈ ((if old.isEmpty then #[none] else #[]) ++ (old ++ new).map some), (c = none ∧ none ∈ L) ∨ ∃ e k v, c = some e ∧ some (k, v, e.born) ∈ L ∧ VR ρ w k e.key ∧ VR ρ w v e.val := by
  unfold nextL at h
  split at h
  · cases h
  · rename_i hcnd
    cases h
    have hcnd2 : (!(⟨seen⟩ : Array Nat).isEmpty && !es'.isEmpty && es'.all (fun x => decide (x.born ≥ last))) = false := by
      rw [Bool.eq_false_iff]
      intro hh
      apply hcnd
      simp only [Bool.and_eq_true, Bool.not_eq_true'] at hh ⊢
      obtain ⟨⟨h1, h2⟩, h3⟩ := hh
      refine ⟨⟨by simpa using h1, ?_⟩, ?_⟩
      · have : es'.size ≠ 0 := by intro e0; rw [Array.isEmpty, e0] at h2; simp at h2
        cases es with
        | nil => simp at hl; omega
        | cons x xs => rfl
      · rw [List.all_eq_true]
        intro x hx
        obtain ⟨e, he, hb⟩ := ent_bwd hr hx
        rw [Array.all_eq_true_iff_forall_mem] at h3
        have := h3 e he
        rw [hb] at this; exact this
    refine ⟨hcnd2, ?_, ?_⟩
    · rw [Array.size_append]
      cases hoe : old.isEmpty with
      | true => simp; omega
      | false =>
        have : old.size ≠ 0 := by intro e0; rw [Array.isEmpty, e0] at hoe; simp at hoe
        rw [Array.size_map, Array.size_append]; omega
    · intro c hc
      rw [Array.mem_append] at hc
      rcases hc with hc | hc
      · cases hoe : old.isEmpty with
        | false => rw [hoe] at hc; simp at hc
        | true =>
          rw [hoe] at hc
          simp only [if_true] at hc
          have hc0 : c = none := by simpa using hc
          refine .inl ⟨hc0, ?_⟩
          have hemp : (((es.filter fun e => !seen.contains e.2.2).filter fun e => decide (e.2.2 < since)).isEmpty) = true := by
            rw [List.isEmpty_iff, List.eq_nil_iff_forall_not_mem]
            intro x hx
            rw [List.mem_filter, List.mem_filter] at hx
            obtain ⟨⟨hx1, hx2⟩, hx3⟩ := hx
            obtain ⟨e, he, hb⟩ := ent_bwd hr hx1
            have : e ∈ old := by
              rw [ho, Array.mem_filter, Array.mem_filter]
              exact ⟨⟨he, by rw [hb]; simpa using hx2⟩, by rw [hb]; exact hx3⟩
            have h0 : old = #[] := by simpa using hoe
            rw [h0] at this; simp at this
          simp only [hemp, if_true]
          simp
      · rw [Array.mem_map] at hc
        obtain ⟨e, he, rfl⟩ := hc
        right
        rw [Array.mem_append] at he
        have hin : e ∈ es' ∧ (!(⟨seen⟩ : Array Nat).contains e.born) = true := by
          rcases he with he | he
          · rw [ho, Array.mem_filter, Array.mem_filter] at he; exact he.1
          · rw [hn, Array.mem_filter, Array.mem_filter] at he; exact he.1
        obtain ⟨k, v, q1, q2, q3⟩ := ent_fwd hl hr hin.1
        refine ⟨e, k, v, rfl, ?_, q2, q3⟩
        refine List.mem_append.2 (.inr (List.mem_map.2 ⟨_, ?_, rfl⟩))
        have hf : (k, v, e.born) ∈ es.filter fun e => !seen.contains e.2.2 := List.mem_filter.2 ⟨q1, by simpa using hin.2⟩
        by_cases hs : e.born < since
        · exact List.mem_append.2 (.inl (List.mem_filter.2 ⟨hf, by simpa using hs⟩))
        · exact List.mem_append.2 (.inr (List.mem_filter.2 ⟨hf, by simp; omega⟩))
end
theorem run_getO {r : Nat} {a : Option Nat} {b : Nat} {c : Array Nat} {d : Nat} (h : w.heap[r]? = some (.mapIter a b c d)) : (getObj r).run P w = .ok (.mapIter a b c d) w := by simp [getObj, Sem.run, h]
theorem run_setO {r : Nat} {a : Option Nat} {b : Nat} {c : Array Nat} {d : Nat} (hr : w.heap[r]? = some (.mapIter a b c d)) (o : Obj) : (setObj r o).run P w = .ok () (setRow w r o) := by simp [setObj, Sem.run, hr, setRow]
theorem next_run {x x' : Value} {l : List (Value × Heap)} (ty : TypeId) (hI : Inv lo n0 w0 ρ h w) (vx : VR ρ w x x') (hn : nextOf lo h x = some l) : ∃ v h' v' w' ρ', (v, h') ∈ l ∧ (Instr.next x' false ty).run P w = .ok v' w' ∧ Inv lo n0 w0 ρ' h' w' ∧ Ext ρ ρ' h h' w w' ∧ VR ρ' w' v v' := by
  unfold nextOf at hn
  split at hn
  · rename_i b
    obtain ⟨r, s, rfl, hρ⟩ := ptr_inv vx
    have tf : ∀ ρ w, VR ρ w (.tuple #[.bool false]) (.tuple #[.bool false]) := fun ρ w => .tup #[.bool false] #[.bool false] rfl (fun i hi => by
      have : i = 0 := by simp at hi; omega
      subst this; exact .bool false)
    split at hn
    · rename_i t seen d hg
      cases hn
      obtain ⟨⟨hlo, rfl⟩, m', h1, h2⟩ := hI.itr b r s none t seen d hρ hg
      have : m' = none := by cases h2; rfl
      subst this
      refine ⟨.tuple #[.bool false], h, .tuple #[.bool false], w, ρ, by simp, ?_, hI, Ext.refl _ _ _, tf _ _⟩
      simp [Instr.next, run_getO h1]
    · rename_i m t seen d hg
      obtain ⟨⟨hlo, rfl⟩, m', h1, h2⟩ := hI.itr b r s (some m) t seen d hρ hg
      obtain ⟨rm, rfl, hρm⟩ : ∃ rm, m' = some rm ∧ ρ m = some (rm, 0) := by cases h2; exact ⟨_, rfl, by assumption⟩
      rw [if_neg (Nat.not_lt.2 hlo)] at hn
      split at hn
      · rename_i es clock hgm
        obtain ⟨L, hL, rfl⟩ := Option.map_eq_some_iff.1 hn
        obtain ⟨es', q1, q2, q3⟩ := hI.map m rm 0 es clock hρm hgm
        obtain ⟨p1, p2, p3⟩ := next_cands (C := #[]) q2 q3 hL rfl rfl
        generalize hC : ((if ((es'.filter fun e => !(⟨seen⟩ : Array Nat).contains e.born).filter (fun x => decide (x.born < t))).isEmpty then (#[none] : Array (Option MapEntry)) else #[]) ++ (((es'.filter fun e => !(⟨seen⟩ : Array Nat).contains e.born).filter (fun x => decide (x.born < t))) ++ ((es'.filter fun e => !(⟨seen⟩ : Array Nat).contains e.born).filter (fun x => decide (x.born ≥ t)))).map some) = C at p2 p3
        have hch : ∃ (j : Nat) (w1 : World), j < C.size ∧ (w1 = w ∨ w1 = w.drew) ∧ (choose (Question.mapNext C.size)).run P w = .ok j w1 := by
          by_cases hf : C.size ≤ 1
          · exact ⟨0, w, p2, .inl rfl, by simp [choose, Sem.run, Question.forced, hf]⟩
          · exact ⟨_, w.drew, Nat.mod_lt _ p2, .inr rfl, by
              simp only [choose, Sem.run, Question.forced, decide_eq_true_eq, hf, if_false, Question.cut]
              rfl⟩
        obtain ⟨j, w1, hj, hw1, hrun⟩ := hch
        have hI1 : Inv lo n0 w0 ρ h w1 := by rcases hw1 with rfl | rfl <;> first | exact hI | exact hI.drew
        have hE1 : Ext ρ ρ h h w w1 := by
          rcases hw1 with rfl | rfl
          · exact Ext.refl _ _ _
          · exact ⟨fun _ _ e => e, fun _ => Nat.le_refl _, Nat.le_refl _, fun _ _ e => ⟨e, rfl⟩⟩
        have h1' : w1.heap[r]? = some (.mapIter (some rm) t ⟨seen⟩ d) := by rcases hw1 with rfl | rfl <;> exact h1
        have hstart : (Instr.next (.pointer (some ⟨r, 0 + 0, none⟩)) false ty).run P w = (match C[j]? with
            | some (some e) => (do setObj r (.mapIter (some rm) t ((⟨seen⟩ : Array Nat).push e.born) clock); pure (.tuple #[.bool true, e.key, e.val]) : Sem Value)
            | some none => (pure (.tuple #[.bool false]) : Sem Value)
            | none => stuck "Next: no such candidate").run P w1 := by
          simp only [Instr.next, Sem.run_bind, run_getO h1, run_getMap q1, Result.andThen_ok, p1, Bool.false_eq_true, if_false, hC, hrun]
          cases C[j]? with
          | none => rfl
          | some c => cases c <;> rfl
        rw [Array.getElem?_eq_getElem hj] at hstart
        rcases p3 C[j] (Array.getElem_mem hj) with ⟨e1, e2⟩ | ⟨en, k, v, e1, e2, e3, e4⟩
        · rw [e1] at hstart
          exact ⟨.tuple #[.bool false], h, .tuple #[.bool false], w1, ρ, List.mem_map.2 ⟨_, e2, rfl⟩, by rw [hstart]; rfl, hI1, hE1, tf _ _⟩
        · rw [e1] at hstart
          obtain ⟨a1, a2⟩ := hI1.istep (seen' := seen ++ [en.born]) (d' := clock) hρ hg h1'
          refine ⟨_, _, .tuple #[.bool true, en.key, en.val], _, ρ, List.mem_map.2 ⟨_, e2, rfl⟩, ?_, a1, hE1.trans a2, ?_⟩
          · rw [hstart]
            simp only [Sem.run_bind, run_setO h1', Result.andThen_ok]
            simp
          · have e3' := (hE1.trans a2).vr e3
            have e4' := (hE1.trans a2).vr e4
            exact .tupL (.cons (.bool true) (.cons e3' (.cons e4' (.nil _ _))))
      · cases hn
    · cases hn
  · cases hn
theorem g_mkif {dst : Option Tmp} {type : TypeId} {pos : String} {after : Array Edge} {guard : Option (Nat × Bool)} {t : TypeId} {x : Operand} (hI : Inv lo n0 w0 ρ h w) (hσ : ∀ x, okOp x = true → VR ρ w (ev σ x) (e x)) (hc : compOp P type (.makeInterface t x) = some hop) (hx : xop lo σ h hop = some (v, h')) :
    Good lo n0 w0 P ρ h w (execOp e ⟨dst, .makeInterface t x, type, pos, after, guard⟩) v h' := by
  simp only [compOp] at hc
  split at hc
  · rename_i ho
    split at hc
    · cases hc
    · rename_i u hne hu
      cases hc
      simp only [xop, xopE] at hx
      cases hx
      refine good_p hI (s := Instr.makeInterface t (e x)) (v' := .iface t (e x)) ?_ (.iface t _ _ (hσ x ho))
      simp only [Instr.makeInterface, Sem.run_bind, run_under hu, Result.andThen_ok]
      cases u <;> first | rfl | exact absurd hu (hne _)
    · cases hc
  · cases hc
theorem g_tassert {dst : Option Tmp} {type : TypeId} {pos : String} {after : Array Edge} {guard : Option (Nat × Bool)} {t xt : TypeId} {ok : Bool} {x : Operand} (hI : Inv lo n0 w0 ρ h w) (hσ : ∀ x, okOp x = true → VR ρ w (ev σ x) (e x)) (hc : compOp P type (.typeAssert x xt t ok) = some hop) (hx : xop lo σ h hop = some (v, h')) :
    Good lo n0 w0 P ρ h w (execOp e ⟨dst, .typeAssert x xt t ok, type, pos, after, guard⟩) v h' := by
  simp only [compOp] at hc
  split at hc
  · rename_i ho
    split at hc
    · cases hc
    · rename_i u hne hu
      split at hc
      · rename_i z hz
        split at hc
        · rename_i hp
          cases hc
          have vx := hσ x ho
          have vt : ∀ {a b : Value} {c : Bool}, VR ρ w a b → VR ρ w (.tuple #[a, .bool c]) (.tuple #[b, .bool c]) := fun {a b c} hv => .tup _ _ rfl fun i hi => by
            match i, hi with
            | 0, _ => exact hv
            | 1, _ => exact .bool c
          have nu : ∀ m, u ≠ .interface m := fun m hm => hne m hm
          simp only [xop, xopE] at hx
          obtain ⟨v9, hx, e9⟩ := Option.map_eq_some_iff.1 hx
          cases e9
          unfold tassertV at hx
          split at hx
          · rename_i hs
            rw [hs] at vx
            have he : e x = .nilIface := by generalize e x = y at vx; cases vx; rfl
            split at hx
            · rename_i hok
              cases hx
              refine good_p hI (s := Instr.typeAssert (e x) xt t ok) (v' := .tuple #[z, .bool false]) ?_ (vt (VR.plainV hp))
              rw [he, hok]
              cases u <;> first
                | exact absurd rfl (nu _)
                | simp [Instr.typeAssert, run_under hu, run_zero hz]
            · cases hx
          · rename_i t' v0 hs
            rw [hs] at vx
            obtain ⟨v1, he, hv1⟩ : ∃ v1, e x = .iface t' v1 ∧ VR ρ w v0 v1 := by generalize e x = y at vx; cases vx; exact ⟨_, rfl, by assumption⟩
            split at hx
            · rename_i htt
              cases hx
              refine good_p hI (s := Instr.typeAssert (e x) xt t ok) (v' := if ok then .tuple #[v1, .bool true] else v1) ?_ ?_
              · rw [he]
                cases u <;> first
                  | exact absurd rfl (nu _)
                  | simp [Instr.typeAssert, run_under hu, htt]
              · cases ok
                · exact hv1
                · exact vt hv1
            · rename_i htt
              split at hx
              · rename_i hok
                cases hx
                refine good_p hI (s := Instr.typeAssert (e x) xt t ok) (v' := .tuple #[z, .bool false]) ?_ (vt (VR.plainV hp))
                rw [he, hok]
                cases u <;> first
                  | exact absurd rfl (nu _)
                  | simp [Instr.typeAssert, run_under hu, htt, run_zero hz]
              · cases hx
          · cases hx
        · cases hc
      · cases hc
    · cases hc
  · cases hc
theorem op_good (hI : Inv lo n0 w0 ρ h w) (hσ : ∀ x, okOp x = true → VR ρ w (ev σ x) (e x)) (o : Oper) (hc : compOp P o.type o.op = some hop) (hnc : ∀ f xs, hop ≠ .call f xs) (hx : xop lo σ h hop = some (v, h')) : Good lo n0 w0 P ρ h w (execOp e o) v h' := by
  obtain ⟨dst, op, type, pos, after, guard⟩ := o
  simp only at hc
  cases op with
  | move x => exact g_mv hI hσ hc hx
  | assign x => exact g_mv hI hσ hc hx
  | pick c a b => exact g_pick hI hσ hc hx
  | alloc t => exact g_alloc hI hc hx
  | box t x => exact g_box hI hσ hc hx
  | build t ps => exact g_build hI hσ hc hx
  | buildSlice t n ps => exact g_bslice hI hσ hc hx
  | insert t m k x => exact g_mput hI hσ hc hx
  | load t a => exact g_load hI hσ hc hx
  | store t a x => exact g_store hI hσ hc hx
  | ready g => cases hc
  | waits g => cases hc
  | nilCheck x => exact g_nilchk hI hσ hc hx
  | binOp op xt x y yt => exact g_bin hI hσ hc hx
  | unOp op xt x => exact g_un hI hσ hc hx
  | convert s d x => exact g_conv hI hσ hc hx
  | sliceToArrayPointer d x => cases hc
  | makeInterface t x => exact g_mkif hI hσ hc hx
  | makeFunc fn a c => exact g_mkfunc hI hσ hc hx
  | makeMap t r => exact g_mkmap hI hc hx
  | makeChan t s => cases hc
  | makeSlice t l c => exact g_mkslice hI hσ hc hx
  | slice t x l hi mx => exact g_slice hI hσ hc hx
  | fieldAddr s x f => exact g_faddr hI hσ hc hx
  | field s x f => exact g_field hI hσ hc hx
  | indexAddr t x i => exact g_iaddr hI hσ hc hx
  | index t x i => exact g_index hI hσ hc hx
  | lookup t m k ok => exact g_lookup hI hσ hc hx
  | mapUpdate t m k x => exact g_mput hI hσ hc hx
  | mapEntry t m k => cases hc
  | entryStore t m k x => cases hc
  | range t x => exact g_range hI hσ hc hx
  | next i s =>
    simp only [compOp] at hc
    split at hc
    · rename_i ho
      simp only [Bool.and_eq_true, Bool.not_eq_true'] at ho
      obtain ⟨ho, rfl⟩ := ho
      cases hc
      simp only [xop, xopE] at hx
      split at hx
      · rename_i r hn
        cases hx
        obtain ⟨v1, h1, v', w', ρ', k1, k2, k3, k4, k5⟩ := next_run (P := P) type hI (hσ i ho) hn
        simp only [List.mem_singleton] at k1
        cases k1
        exact good_v (s := Instr.next (e i) false type) k2 k3 k4 k5
      · cases hx
    · cases hc
  | entry i => cases hc
  | typeAssert x t u ok => exact g_tassert hI hσ hc hx
  | extract x i => exact g_extract hI hσ hc hx
  | call c =>
    obtain ⟨callee, args, ats⟩ := c
    cases callee with
    | value f =>
      exact g_add64 hI hσ hc hnc hx
    | invoke r m => cases hc
    | builtin b =>
      cases b <;> first
        | exact g_append hI hσ hc hx
        | exact g_len hI hσ hc hx
        | exact g_mm (mx := false) hI hσ hc hx
        | exact g_mm (mx := true) hI hσ hc hx
        | exact g_clear hI hσ hc hx
        | (cases hc; done)
  | go c => cases hc
  | defer c => cases hc
  | panic x =>
    simp only [compOp] at hc
    split at hc
    · cases hc; cases hx
    · cases hc
  | send c x => cases hc
  | recv t c ok => cases hc
  | select cs b => cases hc
theorem compOp_call {type : TypeId} {op : Op} {f : Operand} {xs : List Operand} (h : compOp P type op = some (.call f xs)) : ∃ args ats, op = .call ⟨.value f, args, ats⟩ ∧ okOps (f :: args.toList) = true ∧ xs = args.toList := by
  cases op
  case call c =>
    obtain ⟨callee, args, ats⟩ := c
    cases callee with
    | value g =>
      simp only [compOp] at h
      split at h
      · rename_i ho
        split at h
        · split at h <;> cases h
        · cases h; exact ⟨args, ats, rfl, ho, rfl⟩
      · cases h
    | invoke r m => cases h
    | builtin b => cases b <;> simp only [compOp] at h <;> (repeat' (first | (cases h; done) | (simp at h; done) | split at h))
  case makeFunc fn a c => cases fn <;> simp only [compOp] at h <;> (repeat' (first | (cases h; done) | (simp at h; done) | split at h))
  case makeMap t r => cases r <;> cases h
  all_goals first
    | (cases h; done)
    | (simp only [compOp] at h; (repeat' (first | (cases h; done) | (simp at h; done) | split at h)))
def CallOK (P : Program) (lo n0 : Nat) (w0 : World) (call : Nat → List Value → Heap → Option (Value × Heap)) : Prop :=
  ∀ k vs h v h', call k vs h = some (v, h') → ∀ ρ w (args : Array Value), Inv lo n0 w0 ρ h w → VRl ρ w vs args.toList →
    (callFunc k args).run P w = .ok (.enter k args) w ∧ Calls P k args w fun e w' => ∃ v' ρ', e = .returned v' ∧ Inv lo n0 w0 ρ' h' w' ∧ Ext ρ ρ' h h' w w' ∧ VR ρ' w' v v'
end
end
end Go.Proofs.Ytlidnionbofkaaa.Hm
namespace Go.Proofs.Ytlidnionbofkaaa.Hm
noncomputable section
open Go Go.RowKit
set_option linter.all false
set_option linter.unusedSimpArgs false
section
variable {lo : Nat} {P : Program} {σ σ' : List Value} {h : Heap}
theorem xop_congr {op : HOp} (he : ∀ x ∈ op.reads, ev σ x = ev σ' x) : xop lo σ h op = xop lo σ' h op := by
  cases op <;> simp only [HOp.reads, List.mem_cons, List.not_mem_nil, or_false, forall_eq_or_imp, forall_eq] at he <;> simp only [xop, xopE]
  case build z ps =>
    have : (ps.map fun p => (p.1, p.2.1, ev σ p.2.2)) = ps.map fun p => (p.1, p.2.1, ev σ' p.2.2) := List.map_congr_left fun p hp => by rw [he p.2.2 (List.mem_map.2 ⟨p, hp, rfl⟩)]
    rw [this]
  case bslice e n z ps =>
    have : (ps.map fun p => (p.1 * e, e, ev σ p.2)) = ps.map fun p => (p.1 * e, e, ev σ' p.2) := List.map_congr_left fun p hp => by rw [he p.2 (List.mem_map.2 ⟨p, hp, rfl⟩)]
    rw [this]
  case slice e x a b c =>
    obtain ⟨h1, h2⟩ := he
    have o : ∀ q : Option Operand, (∀ y ∈ q.toList, y ∈ a.toList ++ b.toList ++ c.toList) → q.map (ev σ) = q.map (ev σ') := by
      intro q hq; cases q with
      | none => rfl
      | some y => simp [h2 y (hq y (by simp))]
    rw [h1, o a (fun y hy => by simp [hy]), o b (fun y hy => by simp [hy]), o c (fun y hy => by simp [hy])]
  case slicea n e x a b c =>
    obtain ⟨h1, h2⟩ := he
    have o : ∀ q : Option Operand, (∀ y ∈ q.toList, y ∈ a.toList ++ b.toList ++ c.toList) → q.map (ev σ) = q.map (ev σ') := by
      intro q hq; cases q with
      | none => rfl
      | some y => simp [h2 y (hq y (by simp))]
    rw [h1, o a (fun y hy => by simp [hy]), o b (fun y hy => by simp [hy]), o c (fun y hy => by simp [hy])]
  case slices x a b =>
    obtain ⟨h1, h2⟩ := he
    have o : ∀ q : Option Operand, (∀ y ∈ q.toList, y ∈ a.toList ++ b.toList) → q.map (ev σ) = q.map (ev σ') := by
      intro q hq; cases q with
      | none => rfl
      | some y => simp [h2 y (hq y (by simp))]
    rw [h1, o a (fun y hy => by simp [hy]), o b (fun y hy => by simp [hy])]
  case mkfunc f a c =>
    have e1 : a.map (ev σ) = a.map (ev σ') := List.map_congr_left fun x hx => he x (by simp [hx])
    have e2 : c.map (ev σ) = c.map (ev σ') := List.map_congr_left fun x hx => he x (by simp [hx])
    rw [e1, e2]
  all_goals first
    | rfl
    | (rw [he])
    | (rw [he.1, he.2])
    | (rw [he.1, he.2.1, he.2.2])
    | (rw [he.2.1, he.2.2.1, he.2.2.2])
theorem parts_reads {f : Nat → Option (Nat × Nat)} : ∀ {ps : List (Nat × Operand)} {hps : List (Nat × Nat × Operand)}, partsL f ps = some hps → hps.map (·.2.2) = ps.map (·.2)
  | [], _, h => by cases h; rfl
  | (i, x) :: ps, _, h => by
    simp only [partsL] at h
    split at h
    · rename_i o s r hi hr
      split at h
      · cases h; simp [parts_reads hr]
      · cases h
    · cases h
theorem operands_reads {type : TypeId} {op : Op} {hop : HOp} (h : compOp P type op = some hop) : ∀ x ∈ op.operands.toList, x ∈ hop.reads := by
  cases op
  case call c =>
    obtain ⟨callee, args, ats⟩ := c
    cases callee with
    | value g =>
      simp only [compOp] at h
      split at h
      · split at h
        · split at h
          · rename_i x y z hxs
            cases h; intro x hx
            simp [Op.operands, Call.operands, hxs] at hx
            rcases hx with rfl | hx
            · simp [HOp.reads]
            · simp [HOp.reads]
              right; exact hx
          · cases h
        · cases h; intro x hx; simpa [Op.operands, Call.operands, HOp.reads] using hx
      · cases h
    | invoke r m => cases h
    | builtin b =>
      cases b <;> simp only [compOp] at h <;> (try (cases h; done))
      · split at h
        · rename_i s x st xt hargs hats
          obtain rfl := two hargs
          repeat' (first | (cases h; done) | split at h)
          cases h; intro x hx; simpa [Op.operands, Call.operands, HOp.reads] using hx
        · cases h
      · split at h
        · rename_i x t hargs hats
          obtain rfl := one hargs
          repeat' (first | (cases h; done) | split at h)
          all_goals (cases h; intro x hx; simpa [Op.operands, Call.operands, HOp.reads] using hx)
        · cases h
      all_goals first
        | (split at h
           · rename_i x y hargs
             obtain rfl := two hargs
             repeat' (first | (cases h; done) | split at h)
             all_goals (cases h; intro x hx; simpa [Op.operands, Call.operands, HOp.reads] using hx)
           · cases h)
        | (split at h
           · rename_i x t hargs hats
             obtain rfl := one hargs
             repeat' (first | (cases h; done) | split at h)
             all_goals (cases h; intro x hx; simpa [Op.operands, Call.operands, HOp.reads] using hx)
           · cases h)
  case build t ps =>
    simp only [compOp] at h
    have key : ∀ (f : Nat → Option (Nat × Nat)) (z : List Value), (partsL f ps.toList).map (HOp.build z ·) = some hop → ∀ x ∈ (Op.build t ps).operands.toList, x ∈ hop.reads := by
      intro f z hp
      obtain ⟨hps, h1, rfl⟩ := Option.map_eq_some_iff.1 hp
      intro x hx
      simp only [HOp.reads, parts_reads h1]
      simpa [Op.operands] using hx
    repeat' (first | (cases h; done) | exact key _ _ h | split at h)
  case buildSlice t n ps =>
    simp only [compOp] at h
    repeat' (first | (cases h; done) | split at h)
    cases h; intro x hx; simpa [Op.operands, HOp.reads] using hx
  case makeFunc fn a c =>
    cases fn <;> simp only [compOp] at h <;> (try (cases h; done))
    split at h
    · cases h; intro x hx; simpa [Op.operands, HOp.reads] using hx
    · cases h
  case makeMap t r =>
    cases r with
    | none => cases h; intro x hx; simp [Op.operands] at hx
    | some y => cases h
  case slice t x a b c =>
    simp only [compOp] at h
    split at h
    · repeat' (first | (cases h; done) | split at h)
      all_goals first
        | (obtain ⟨s, _, rfl⟩ := Option.map_eq_some_iff.1 h; intro y hy; simpa [Op.operands, HOp.reads, or_assoc] using hy)
        | (rename_i hn; cases h; cases c <;> simp_all [Op.operands, HOp.reads, or_assoc])
    · cases h
  all_goals first
    | (cases h; done)
    | (simp only [compOp] at h
       repeat' (first | (cases h; done) | split at h)
       all_goals first
         | (cases h; intro x hx; simpa [Op.operands, HOp.reads] using hx)
         | (obtain ⟨s, _, rfl⟩ := Option.map_eq_some_iff.1 h; intro x hx; simpa [Op.operands, HOp.reads] using hx))
theorem mem_tmps {x : Operand} {xs : List Operand} {t : Nat} (hx : x ∈ xs) (ht : x = .tmp t) : t ∈ tmpsOf xs := by
  subst ht; exact List.mem_filterMap.2 ⟨.tmp t, hx, rfl⟩
end
end
end Go.Proofs.Ytlidnionbofkaaa.Hm
