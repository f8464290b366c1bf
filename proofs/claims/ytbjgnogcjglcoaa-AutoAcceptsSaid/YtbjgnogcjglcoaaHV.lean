/- Operations that read or write memory, beside H's. -/
import Derived.Test.YtbjgnogcjglcoaaHU
namespace Go.Proofs.Ytbjgnogcjglcoaa.Hm
open Go Go.RowKit
set_option linter.all false
set_option linter.unusedSimpArgs false
section
variable {lo n0 : Nat} {w0 : World} {ρ : Rho} {h h' : Heap} {w : World} {P : Program} {σ : List Value} {e : Operand → Value} {dst : Option Tmp} {type : TypeId} {pos : String} {after : Array Edge} {guard : Option (Nat × Bool)} {hop : HOp} {v : Value}
theorem g_load {t : TypeId} {x : Operand} (hI : Inv lo n0 w0 ρ h w) (hσ : ∀ x, okOp x = true → VR ρ w (ev σ x) (e x)) (hc : compOp P type (.load t x) = some hop) (hx : xop lo σ h hop = some (v, h')) :
    Good lo n0 w0 P ρ h w (execOp e ⟨dst, .load t x, type, pos, after, guard⟩) v h' := by
  simp only [compOp] at hc
  split at hc
  · rename_i ho
    split at hc
    · rename_i n g hn hg
      cases hc; simp only [xop] at hx
      have vx := hσ x ho
      split at hx
      · rename_i b o hb
        rw [hb] at vx
        obtain ⟨r, s, hr, hρ⟩ := ptr_inv vx
        cases g with
        | none =>
          simp only at hx
          obtain ⟨u, hu, e2⟩ := Option.map_eq_some_iff.1 hx
          cases e2
          obtain ⟨u', k1, k2, _⟩ := hI.rd1 (P := P) hρ hu
          refine good_p hI (s := Instr.loadAt t (e x)) ?_ k2
          rw [hr]
          simp only [Instr.loadAt, Instr.sureAddr, loadVar, Sem.run_bind, Sem.run_pure, Result.andThen_ok, run_agg hg, Option.isSome_none, Bool.false_eq_true, if_false, k1]
        | some m =>
          have hm := agg_size hg
          rw [hn] at hm; cases hm
          simp only at hx
          obtain ⟨u, hu, e2⟩ := Option.map_eq_some_iff.1 hx
          cases e2
          obtain ⟨l', k1, k2, _, k4, _⟩ := hI.rd (P := P) hρ hu
          refine good_p hI (s := Instr.loadAt t (e x)) (v' := .agg l') ?_ (VR.aggL k2 k4)
          rw [hr]
          simp only [Instr.loadAt, Instr.sureAddr, loadVar, Sem.run_bind, Sem.run_pure, Result.andThen_ok, run_agg hg, Option.isSome_some, if_true, run_size hn, k1]
      · cases hx
    · cases hc
  · cases hc
theorem cells_cell1 {x x' : Value} {cs : List Value} (hv : VR ρ w x x') (hc : cellsV x = some cs) : ∀ y ∈ x'.cells.toList, cell1 y = true := by
  obtain ⟨a, b⟩ := hv.cells hc
  intro y hy
  obtain ⟨i, hi, rfl⟩ := List.getElem_of_mem hy
  have hi2 : i < cs.length := by rw [a.1]; exact hi
  have := a.2 i hi2
  simp only [List.getD_eq_getElem?_getD, List.getElem?_eq_getElem hi, List.getElem?_eq_getElem hi2, Option.getD_some] at this
  exact this.cell1 (b _ (List.getElem_mem hi2))
theorem g_store {t : TypeId} {a x : Operand} (hI : Inv lo n0 w0 ρ h w) (hσ : ∀ x, okOp x = true → VR ρ w (ev σ x) (e x)) (hc : compOp P type (.store t a x) = some hop) (hx : xop lo σ h hop = some (v, h')) :
    Good lo n0 w0 P ρ h w (execOp e ⟨dst, .store t a x, type, pos, after, guard⟩) v h' := by
  simp only [compOp] at hc
  split at hc
  · rename_i ho
    obtain ⟨n, hn, rfl⟩ := Option.map_eq_some_iff.1 hc
    simp only [xop] at hx
    have va := hσ a (okOps_mem ho (by simp))
    have vx := hσ x (okOps_mem ho (by simp))
    split at hx
    · rename_i b o hb
      rw [hb] at va
      obtain ⟨r, s, hr, hρ⟩ := ptr_inv va
      split at hx
      · rename_i vs hvs
        split at hx
        · rename_i hl
          obtain ⟨u, hu, e2⟩ := Option.map_eq_some_iff.1 hx
          cases e2
          obtain ⟨k1, k2⟩ := vx.cells hvs
          obtain ⟨w', h1, h2, h3⟩ := hI.wr (P := P) hρ hu k1 k2 (cells_cell1 vx hvs)
          have hsz : (e x).cells.size = n := by have := k1.1; simp at this; omega
          refine good_u (s := Instr.storeAt t (e a) (e x)) ?_ h2 h3
          rw [hr]
          simp only [Instr.storeAt, Instr.sureAddr, storeVar, Sem.run_bind, Sem.run_pure, Result.andThen_ok, run_size hn, hsz, ne_eq, not_true_eq_false, if_false, Sem.run_ite, h1]
        · cases hx
      · cases hx
    · cases hx
  · cases hc
theorem call_builtin {b : Builtin} {args : Array Operand} {ats : Array TypeId} : execOp e ⟨dst, .call ⟨.builtin b, args, ats⟩, type, pos, after, guard⟩ = builtin b ats type (args.map fun | .const _ => true | _ => false) (args.map e) := rfl
theorem two {α : Type} {a : Array α} {x y : α} (h : a.toList = [x, y]) : a = #[x, y] := by cases a; simp_all
theorem one {α : Type} {a : Array α} {x : α} (h : a.toList = [x]) : a = #[x] := by cases a; simp_all
theorem ex_b1 {b : Builtin} {x : Operand} {t : TypeId} : execOp e ⟨dst, .call ⟨.builtin b, #[x], #[t]⟩, type, pos, after, guard⟩ = builtin b #[t] type #[match x with | .const _ => true | _ => false] #[e x] := by
  rw [call_builtin]; simp
theorem ex_b2 {b : Builtin} {x y : Operand} {t u : TypeId} : ∃ cs, execOp e ⟨dst, .call ⟨.builtin b, #[x, y], #[t, u]⟩, type, pos, after, guard⟩ = builtin b #[t, u] type cs #[e x, e y] := by
  rw [call_builtin]; simp only [List.map_toArray, List.map_cons, List.map_nil]; exact ⟨_, rfl⟩
theorem g_len {args : Array Operand} {ats : Array TypeId} (hI : Inv lo n0 w0 ρ h w) (hσ : ∀ x, okOp x = true → VR ρ w (ev σ x) (e x)) (hc : compOp P type (.call ⟨.builtin .len, args, ats⟩) = some hop) (hx : xop lo σ h hop = some (v, h')) :
    Good lo n0 w0 P ρ h w (execOp e ⟨dst, .call ⟨.builtin .len, args, ats⟩, type, pos, after, guard⟩) v h' := by
  simp only [compOp] at hc
  split at hc
  · rename_i x t hargs hats
    obtain rfl := one hargs
    obtain rfl := one hats
    split at hc
    · rename_i ho
      have vx := hσ x ho
      rw [ex_b1]
      have key : ∀ {u : Value}, (Builtin.len_ #[t] type #[e x]).run P w = .ok u w → VR ρ w v u → h' = h → Good lo n0 w0 P ρ h w (builtin .len #[t] type #[match x with | .const _ => true | _ => false] #[e x]) v h' := by
        rintro u h1 h2 rfl
        exact good_p hI (s := Builtin.len_ #[t] type #[e x]) h1 h2
      split at hc
      · rename_i hu
        cases hc; simp only [xop] at hx
        split at hx
        · rename_i s hs
          cases hx
          rw [hs] at vx
          refine key (u := .int .i64 s.size) ?_ (.int _ _) rfl
          rw [vx.of_str]
          simp [Builtin.len_, run_under hu, goInt]
        · cases hx
      · rename_i el hu
        cases hc; simp only [xop] at hx
        split at hx
        · rename_i a n c hs
          cases hx
          rw [hs] at vx
          obtain ⟨a', c', he⟩ : ∃ a' c', e x = .slice a' n c' := by generalize e x = y at vx; cases vx <;> exact ⟨_, _, rfl⟩
          refine key (u := .int .i64 n) ?_ (.int _ _) rfl
          rw [he]
          simp [Builtin.len_, run_under hu, goInt]
        · cases hx
      · rename_i kt et hu
        cases hc; simp only [xop] at hx
        split at hx
        · rename_i hs
          cases hx
          rw [hs] at vx
          have he : e x = .map none := by generalize e x = y at vx; cases vx; rfl
          refine key (u := .int .i64 0) ?_ (.int _ _) rfl
          rw [he]
          simp [Builtin.len_, run_under hu, goInt]
        · rename_i b hs
          rw [hs] at vx
          split at hx
          · rename_i es t0 hg
            cases hx
            obtain ⟨r, he, hρ⟩ : ∃ r, e x = .map (some r) ∧ ρ b = some (r, 0) := by generalize e x = y at vx; cases vx; exact ⟨_, rfl, by assumption⟩
            obtain ⟨es', h1, h2, _⟩ := hI.map _ _ _ _ _ hρ hg
            refine key (u := .int .i64 es.length) ?_ (.int _ _) rfl
            rw [he]
            simp [Builtin.len_, run_under hu, goInt, getObj, Sem.run, h1, h2]
          · cases hx
        · cases hx
      · rename_i n el hu
        cases hc; simp only [xop] at hx; cases hx
        refine key (u := .int .i64 n) ?_ (.int _ _) rfl
        have : ∀ y, (Builtin.len_ #[t] type #[y]).run P w = .ok (.int .i64 n) w := by
          intro y
          cases y <;> simp [Builtin.len_, run_under hu, goInt]
        exact this _
      · cases hc
    · cases hc
  · cases hc
theorem map_inv {b : Nat} {y : Value} (h : VR ρ w (.map (some b)) y) : ∃ r, y = .map (some r) ∧ ρ b = some (r, 0) := by
  cases h; exact ⟨_, rfl, by assumption⟩
theorem run_getMap {r : Nat} {es : Array MapEntry} {t : Nat} (h : w.heap[r]? = some (.map es t)) : (getObj r).run P w = .ok (.map es t) w := by
  simp [getObj, Sem.run, h]
theorem g_lookup {t : TypeId} {m k : Operand} {ok : Bool} (hI : Inv lo n0 w0 ρ h w) (hσ : ∀ x, okOp x = true → VR ρ w (ev σ x) (e x)) (hc : compOp P type (.lookup t m k ok) = some hop) (hx : xop lo σ h hop = some (v, h')) :
    Good lo n0 w0 P ρ h w (execOp e ⟨dst, .lookup t m k ok, type, pos, after, guard⟩) v h' := by
  simp only [compOp] at hc
  split at hc
  · rename_i ho
    have vm := hσ m (okOps_mem ho (by simp))
    have vk := hσ k (okOps_mem ho (by simp))
    split at hc
    · rename_i kt et hu
      split at hc
      · rename_i d z hd hz
        split at hc
        · rename_i hp
          cases hc; simp only [xop] at hx
          -- the entries, on both sides
          have hes : ∀ es, h.entries (ev σ m) = some es → ∃ es' : Array MapEntry, ER ρ w es es'.toList ∧ ((e m = .map none ∧ es' = #[]) ∨ ∃ r t0, e m = .map (some r) ∧ (getObj r).run P w = .ok (.map es' t0) w) := by
            intro es he
            unfold Heap.entries at he
            split at he
            · rename_i hm
              cases he
              rw [hm] at vm
              have hem : e m = .map none := by generalize e m = y at vm; cases vm; rfl
              exact ⟨#[], ⟨rfl, fun i k v a hi => by simp at hi⟩, .inl ⟨hem, rfl⟩⟩
            · rename_i b hm
              rw [hm] at vm
              split at he
              · rename_i es2 t2 hg
                cases he
                obtain ⟨r, hem, hρ⟩ := map_inv vm
                obtain ⟨es', h1, h2, h3⟩ := hI.map _ _ _ _ _ hρ hg
                exact ⟨es', ⟨by simpa using h2, fun i k v a hi => by simpa using h3 i k v a hi⟩, .inr ⟨r, _, hem, run_getMap h1⟩⟩
              · cases he
            · cases he
          split at hx
          · cases hx
          · rename_i es he
            obtain ⟨es', h1, h2⟩ := hes es he
            split at hx
            · rename_i hk
              have hck := key_ck (P := P) (w := w) hd hk vk es'.isEmpty
              have run_look : ∀ {r' : Option (Nat × Value)} {u : Value}, (Instr.findKey kt (e k) es'.toList).run P w = .ok r' w → (u = match r' with | some (_, x) => if ok then .tuple #[x, .bool true] else x | none => if ok then .tuple #[z, .bool false] else z) → (Instr.lookup t (e m) (e k) ok).run P w = .ok u w := by
                intro r' u hf hu'
                unfold Instr.lookup
                rw [Sem.run_bind, run_under hu]
                simp only [Result.andThen_ok]
                rcases h2 with ⟨hem, rfl⟩ | ⟨r, t0, hem, hget⟩
                · rw [hem]
                  simp only [Sem.run_bind, Sem.run_pure, Result.andThen_ok, hck, hf]
                  cases r' with
                  | none => simp only [Sem.run_bind, run_zero hz, Result.andThen_ok, Sem.run_pure, hu']
                  | some p => obtain ⟨i, x⟩ := p; simp only [Sem.run_bind, Sem.run_pure, Result.andThen_ok, hu']
                · rw [hem]
                  simp only [Sem.run_bind, hget, Sem.run_pure, Result.andThen_ok, hck, hf]
                  cases r' with
                  | none => simp only [Sem.run_bind, run_zero hz, Result.andThen_ok, Sem.run_pure, hu']
                  | some p => obtain ⟨i, x⟩ := p; simp only [Sem.run_bind, Sem.run_pure, Result.andThen_ok, hu']
              have vz : VR ρ w z z := .plainV hp
              split at hx
              · rename_i i x hf
                cases hx
                obtain ⟨r', k1, k2⟩ := find_key (P := P) hd vk h1 hf
                cases r' with
                | none => exact k2.elim
                | some p =>
                  obtain ⟨j, x'⟩ := p
                  refine good_p hI (s := Instr.lookup t (e m) (e k) ok) (run_look k1 rfl) ?_
                  cases ok
                  · exact k2.2
                  · exact .tupL (.cons k2.2 (.cons (.bool _) (.nil _ _)))
              · rename_i hf
                cases hx
                obtain ⟨r', k1, k2⟩ := find_key (P := P) hd vk h1 hf
                cases r' with
                | some p => exact k2.elim
                | none =>
                  refine good_p hI (s := Instr.lookup t (e m) (e k) ok) (run_look k1 rfl) ?_
                  cases ok
                  · exact vz
                  · exact .tupL (.cons vz (.cons (.bool _) (.nil _ _)))
              · cases hx
            · cases hx
        · cases hc
      · cases hc
    · cases hc
  · cases hc
theorem g_mkmap {t : TypeId} {x : Option Operand} (hI : Inv lo n0 w0 ρ h w) (hc : compOp P type (.makeMap t x) = some hop) (hx : xop lo σ h hop = some (v, h')) :
    Good lo n0 w0 P ρ h w (execOp e ⟨dst, .makeMap t x, type, pos, after, guard⟩) v h' := by
  cases x with
  | some y => cases hc
  | none =>
    cases hc; simp only [xop] at hx; cases hx
    obtain ⟨a1, a2⟩ := hI.allocMap
    exact good_v (s := Instr.makeMap t none) (v' := .map (some w.heap.size)) rfl a1 a2 (.map _ _ (rho_new ρ h.n w.heap.size 0))
end
end Go.Proofs.Ytbjgnogcjglcoaa.Hm
