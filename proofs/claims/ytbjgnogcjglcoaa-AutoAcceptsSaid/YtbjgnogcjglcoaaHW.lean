/- Maps written, slices made, sums with a carry, beside H's. -/
import Derived.Test.YtbjgnogcjglcoaaHV
import Derived.Laws.Externs
namespace Go.Proofs.Ytbjgnogcjglcoaa.Hm
open Go Go.RowKit
set_option linter.all false
set_option linter.unusedSimpArgs false
section
variable {lo n0 : Nat} {w0 : World} {ρ : Rho} {h h' : Heap} {w : World} {P : Program} {σ : List Value} {e : Operand → Value} {dst : Option Tmp} {type : TypeId} {pos : String} {after : Array Edge} {guard : Option (Nat × Bool)} {hop : HOp} {v : Value}
theorem veq0_true {k : PK} {a b : Value} (h : veq0 k a b = some true) : a = b ∧ ∀ n, Instr.sameBits n a b = true := by
  rcases veq0_inv h with ⟨_, x, y, rfl, rfl, e⟩ | ⟨_, q, x, y, rfl, rfl, e⟩ | ⟨rfl, x, y, rfl, rfl, e⟩
  · have e' := eq_of_beq e.symm
    subst e'; exact ⟨rfl, fun n => by cases n <;> simp [Instr.sameBits]⟩
  · have e' := eq_of_beq e.symm
    subst e'; exact ⟨rfl, fun n => by cases n <;> simp [Instr.sameBits]⟩
  · have e' : x = y := by
      simp only [veq0, Option.some.injEq, decide_eq_true_eq] at h
      obtain ⟨⟨x⟩⟩ := x
      obtain ⟨⟨y⟩⟩ := y
      simp only at h
      rw [h]
    subst e'
    exact ⟨rfl, fun n => by cases n <;> exact e.symm⟩
theorem eqcells_true {xs ys : List Value} : ∀ {l : List (Nat × PK)}, eqcells xs ys l = some true → ∀ o ∈ l, ∃ a b, xs[o.1]? = some a ∧ ys[o.1]? = some b ∧ veq0 o.2 a b = some true
  | [], h, o, ho => by cases ho
  | p :: l, h, o, ho => by
    simp only [eqcells] at h
    split at h
    · rename_i a b ha hb
      split at h
      · rename_i e
        cases ho with
        | head => exact ⟨a, b, ha, hb, e⟩
        | tail _ ho => exact eqcells_true h o ho
      · rename_i r hr; exact absurd h hr
    · cases h
theorem same_bits {t : TypeId} {D : EqD} (hD : keyT P t = some D) {a b a' b' : Value} (ha : VR ρ w a a') (hb : VR ρ w b b') (he : eqv D a b = some true) : Instr.sameBits 10000 b' a' = true := by
  rcases keyT_inv hD with ⟨q, rfl, hq⟩ | ⟨n, l, rfl, hn, hl, hr, hg, hw, _⟩
  · simp only [eqv] at he
    rw [ha.prim he, hb.prim2 he]
    obtain ⟨rfl, h2⟩ := veq0_true he
    exact h2 _
  · cases a <;> simp only [eqv] at he <;> (try (cases he; done))
    cases b <;> simp only [eqv] at he <;> (try (cases he; done))
    split at he
    · rename_i xs ys hlen
      obtain ⟨xs', rfl, hx, _⟩ := ha.of_agg
      obtain ⟨ys', rfl, hy, _⟩ := hb.of_agg
      have cell : ∀ j, j < n → ∃ a, xs'.toList[j]? = some a ∧ ys'.toList[j]? = some a ∧ ∀ m, Instr.sameBits m a a = true := by
        intro j hj
        have : j ∈ l.map (·.1) := by rw [hr]; simpa using hj
        obtain ⟨o, ho, rfl⟩ := List.mem_map.1 this
        obtain ⟨a, b, h1, h2, h3⟩ := eqcells_true he o ho
        obtain ⟨a', k1, va⟩ := hx.get h1
        obtain ⟨b', k2, vb⟩ := hy.get h2
        obtain ⟨rfl, h4⟩ := veq0_true h3
        refine ⟨a, ?_, ?_, h4⟩
        · rw [k1, va.prim h3]
        · rw [k2, vb.prim2 h3]
      have l1 : xs'.toList.length = n := by rw [← hx.1]; exact hlen.1
      have l2 : ys'.toList.length = n := by rw [← hy.1]; exact hlen.2
      have heq : ys'.toList = xs'.toList := by
        apply List.ext_getElem?
        intro j
        by_cases hj : j < n
        · obtain ⟨a, h1, h2, _⟩ := cell j hj; rw [h1, h2]
        · rw [List.getElem?_eq_none (by omega), List.getElem?_eq_none (by omega)]
      have hall : ∀ x ∈ xs'.toList, ∀ m, Instr.sameBits m x x = true := by
        intro x hx m
        obtain ⟨j, hj, rfl⟩ := List.getElem_of_mem hx
        obtain ⟨a, h1, _, h3⟩ := cell j (by omega)
        rw [List.getElem?_eq_getElem hj] at h1; cases h1; exact h3 m
      have hsz : ys'.size = xs'.size := by simpa using congrArg List.length heq
      show Instr.sameBits (9999 + 1) (.agg ys') (.agg xs') = true
      simp only [Instr.sameBits, hsz, heq, beq_self_eq_true, Bool.true_and, List.all_eq_true]
      intro p hp
      obtain ⟨x, y⟩ := p
      have : x = y ∧ x ∈ xs'.toList := by
        have hz : ∀ (l : List Value) (x y : Value), (x, y) ∈ l.zip l → x = y ∧ x ∈ l := by
          intro l
          induction l with
          | nil => intro x y h; simp at h
          | cons a l ih =>
            intro x y h
            simp only [List.zip_cons_cons, List.mem_cons, Prod.mk.injEq] at h
            rcases h with ⟨rfl, rfl⟩ | h
            · exact ⟨rfl, by simp⟩
            · obtain ⟨h1, h2⟩ := ih x y h; exact ⟨h1, by simp [h2]⟩
        exact hz _ _ _ hp
      obtain ⟨rfl, hm⟩ := this
      exact hall x hm _
    · cases he
theorem findL_spec {D : EqD} {k : Value} : ∀ {es : List (Value × Value × Nat)} {i0 i : Nat} {v : Value}, findL D k es i0 = some (some (i, v)) → i0 ≤ i ∧ ∃ k2 a, es[i - i0]? = some (k2, v, a) ∧ eqv D k k2 = some true
  | [], i0, i, v, h => by simp [findL] at h
  | (k2, v2, a) :: es, i0, i, v, h => by
    simp only [findL] at h
    split at h
    · rename_i he
      cases h
      exact ⟨Nat.le_refl _, k2, a, by simp, he⟩
    · obtain ⟨h1, k3, a3, h2, h3⟩ := findL_spec h
      refine ⟨by omega, k3, a3, ?_, h3⟩
      rw [show i - i0 = (i - (i0 + 1)) + 1 by omega]
      simpa using h2
    · cases h
theorem run_setMap {r : Nat} {es : Array MapEntry} {t : Nat} (hr : w.heap[r]? = some (.map es t)) (o : Obj) : (setObj r o).run P w = .ok () (setRow w r o) := by
  simp [setObj, Sem.run, hr, setRow]
theorem g_mput {t : TypeId} {m k x : Operand} (hI : Inv lo n0 w0 ρ h w) (hσ : ∀ x, okOp x = true → VR ρ w (ev σ x) (e x))
    (hc : (if okOps [m, k, x] then match P.underlying t with | some (.map kt _) => (keyT P kt).map (HOp.mput · m k x) | _ => none else none) = some hop) (hx : xop lo σ h hop = some (v, h')) :
    Good lo n0 w0 P ρ h w (do Instr.mapUpdate t (e m) (e k) (e x); pure .skip) v h' := by
  split at hc
  · rename_i ho
    have vm := hσ m (okOps_mem ho (by simp))
    have vk := hσ k (okOps_mem ho (by simp))
    have vx := hσ x (okOps_mem ho (by simp))
    split at hc
    · rename_i kt et hu
      obtain ⟨d, hd, rfl⟩ := Option.map_eq_some_iff.1 hc
      simp only [xop] at hx
      split at hx
      · rename_i b hm
        rw [hm] at vm
        obtain ⟨r, hem, hρ⟩ := map_inv vm
        split at hx
        · cases hx
        · rename_i hlo
          split at hx
          · rename_i es t0 hg
            obtain ⟨es', h1, h2, h3⟩ := hI.map _ _ _ _ _ hρ hg
            have hER : ER ρ w es es'.toList := ⟨by simpa using h2, fun i k v a hi => by simpa using h3 i k v a hi⟩
            split at hx
            · rename_i hk
              have hck := key_ck (P := P) (w := w) hd hk vk false
              split at hx
              · rename_i i v2 hf
                obtain ⟨_, k2, a2, h4, h5⟩ := findL_spec hf
                simp only [Nat.sub_zero] at h4
                rw [h4] at hx
                simp only at hx
                cases hx
                obtain ⟨r', q1, q2⟩ := find_key (P := P) hd vk hER hf
                cases r' with
                | none => exact q2.elim
                | some p =>
                  obtain ⟨j, x2⟩ := p
                  obtain ⟨rfl, _⟩ := q2
                  obtain ⟨ee, e1, e2, e3, e4⟩ := h3 i k2 v2 a2 h4
                  have hst : (Instr.keyThatStays ((es'[i]?.map (·.key)).getD (e k)) (e k)).run P w = .ok (e k) w := by
                    unfold Instr.keyThatStays
                    rw [e1]
                    simp only [Option.map_some, Option.getD_some]
                    rw [if_pos (same_bits hd vk e2 h5)]; rfl
                  obtain ⟨a1, a2'⟩ := hI.mput (Nat.le_of_not_lt hlo) hρ hg h1 (es2 := es.set i (ev σ k, ev σ x, a2)) (t' := t0) (em' := es'.modify i fun y => { y with key := e k, val := e x }) (by simp [h2]) (fun q k3 v3 a3 hq => by
                    rw [List.getElem?_set] at hq
                    rw [Array.getElem?_modify]
                    by_cases eq : i = q
                    · subst eq
                      rw [if_pos rfl] at hq
                      rw [if_pos rfl, e1]
                      split at hq
                      · simp only [Option.some.injEq, Prod.mk.injEq] at hq
                        obtain ⟨rfl, rfl, rfl⟩ := hq
                        exact ⟨_, rfl, vk, vx, e4⟩
                      · cases hq
                    · rw [if_neg eq] at hq
                      rw [if_neg eq]
                      exact h3 q k3 v3 a3 hq)
                  refine good_u ?_ a1 a2'
                  unfold Instr.mapUpdate
                  rw [hem, Sem.run_bind, run_under hu]
                  simp only [Result.andThen_ok, Sem.run_bind, run_getMap h1, hck, q1, hst, run_setMap h1]
              · rename_i hf
                cases hx
                obtain ⟨r', q1, q2⟩ := find_key (P := P) hd vk hER hf
                cases r' with
                | some p => exact q2.elim
                | none =>
                  obtain ⟨a1, a2'⟩ := hI.mput (Nat.le_of_not_lt hlo) hρ hg h1 (es2 := es ++ [(ev σ k, ev σ x, t0)]) (t' := t0 + 1) (em' := es'.push { key := e k, val := e x, born := t0 }) (by simp [h2]) (fun q k3 v3 a3 hq => by
                    rw [Array.getElem?_push]
                    by_cases eq : q = es'.size
                    · rw [if_pos eq]
                      rw [List.getElem?_append_right (by omega), h2, eq, Nat.sub_self] at hq
                      simp only [List.getElem?_cons_zero, Option.some.injEq, Prod.mk.injEq] at hq
                      obtain ⟨rfl, rfl, rfl⟩ := hq
                      exact ⟨_, rfl, vk, vx, rfl⟩
                    · rw [if_neg eq]
                      have hlt : q < es.length := by
                        rcases Nat.lt_or_ge q es.length with h | h
                        · exact h
                        · rw [List.getElem?_append_right h, List.getElem?_eq_none (by simp; omega)] at hq; cases hq
                      rw [List.getElem?_append_left hlt] at hq
                      exact h3 q k3 v3 a3 hq)
                  refine good_u ?_ a1 a2'
                  unfold Instr.mapUpdate
                  rw [hem, Sem.run_bind, run_under hu]
                  simp only [Result.andThen_ok, Sem.run_bind, run_getMap h1, hck, q1, run_setMap h1]
              · cases hx
            · cases hx
          · cases hx
      · cases hx
    · cases hc
  · cases hc
theorem wrap_small {n : Int} (h0 : 0 ≤ n) (h1 : n ≤ 2 ^ 44) : IntKind.i64.wrap n = n := by
  unfold IntKind.wrap IntKind.bits IntKind.signed
  simp only [Bool.true_and, decide_eq_true_eq]
  split <;> omega
theorem run_askRoom (n : Nat) : (askRoom n).run P w = .ok () w := by
  unfold askRoom; split <;> rfl
theorem g_mkslice {t : TypeId} {l c : Operand} (hI : Inv lo n0 w0 ρ h w) (hσ : ∀ x, okOp x = true → VR ρ w (ev σ x) (e x)) (hc : compOp P type (.makeSlice t l c) = some hop) (hx : xop lo σ h hop = some (v, h')) :
    Good lo n0 w0 P ρ h w (execOp e ⟨dst, .makeSlice t l c, type, pos, after, guard⟩) v h' := by
  simp only [compOp] at hc
  split at hc
  · rename_i ho
    have vl := hσ l (okOps_mem ho (by simp))
    have vc := hσ c (okOps_mem ho (by simp))
    split at hc
    · rename_i el hel
      split at hc
      · rename_i s b z hs hb hz
        split at hc
        · rename_i hp
          obtain ⟨hp1, hp2, hp3, hp4, hp5⟩ := hp
          cases hc; simp only [xop] at hx
          split at hx
          · rename_i q1 nl q2 nc hl hcc
            rw [hl] at vl; rw [hcc] at vc
            split at hx
            · rename_i hle
              obtain ⟨h0, h1, h2⟩ := hle
              cases hx
              obtain ⟨ml, rfl⟩ := Int.eq_ofNat_of_zero_le h0
              obtain ⟨mc, rfl⟩ := Int.eq_ofNat_of_zero_le (Int.le_trans h0 h1)
              have hmc : mc * b ≤ 2 ^ 44 := by exact_mod_cast h2
              have hmc2 : mc ≤ 2 ^ 44 := Nat.le_trans (Nat.le_mul_of_pos_right _ hp4) hmc
              obtain ⟨za, zb⟩ := plainV_cells (ρ := ρ) (w := w) hp1 (nt hp5)
              obtain ⟨r1, r2⟩ := zeros_row z.cells (by omega) mc za zb
              rw [hp2] at r1
              simp only [Int.toNat_natCast]
              obtain ⟨l1, l2⟩ := r1.row r2
              obtain ⟨i, hi, hib⟩ := run_bytes (w := w) hb
              have hrun : (Instr.makeSlice t (e l) (e c)).run P w = .ok (.slice (some ⟨w.heap.size, 0, none⟩) ml mc) (w.alloc (.cells ((Array.range (mc * s)).map (z.cells[· % s]!)) el)) := by
                rw [vl.of_int, vc.of_int]
                unfold Instr.makeSlice
                rw [Sem.run_bind, run_under hel]
                have w1 : IntKind.i64.wrap (ml : Int) = ml := wrap_small (by omega) (by omega)
                have w2 : IntKind.i64.wrap (mc : Int) = mc := wrap_small (by omega) (by omega)
                have hbig : ¬ ((b : Int) * mc > 2 ^ 48) := by
                  have : (b : Int) * mc ≤ 2 ^ 44 := by rw [Int.mul_comm]; exact_mod_cast hmc
                  omega
                simp only [Result.andThen_ok, Sem.run_bind, asInt, asIntOf, Sem.run_pure, hi, hib, w1, w2]
                have hcond : ((decide ((mc : Int) < 0) || decide ((b : Int) * mc > 2 ^ 48)) || decide ((ml : Int) < 0) || decide ((ml : Int) > mc)) = false := by
                  simp only [Bool.or_eq_false_iff, decide_eq_false_iff_not]
                  refine ⟨⟨⟨by omega, hbig⟩, by omega⟩, by omega⟩
                simp only [hcond, Bool.false_eq_true, if_false, Int.toNat_natCast, Sem.run_bind, run_askRoom, Result.andThen_ok, run_size hs]
                by_cases hz0 : mc * s = 0
                · have hm0 : mc = 0 := by rcases Nat.mul_eq_zero.1 hz0 with h | h <;> omega
                  subst hm0
                  have hr0 : Array.range 0 = #[] := by simp
                  simp only [Nat.zero_mul, if_true, hr0, List.map_toArray, List.map_nil, Sem.run_pure, Result.andThen_ok, Sem.run_bind, run_newRow]
                · simp only [if_neg hz0, Sem.run_bind, run_zero hz, Sem.run_pure, Result.andThen_ok, hp2, run_newRow]
              obtain ⟨a1, a2⟩ := hI.alloc el l1 l2 (.inl rfl)
              refine good_v hrun a1 a2 ?_
              have := VR.sle (w := w.alloc (.cells ((Array.range (mc * s)).map (z.cells[· % s]!)) el)) h.n w.heap.size 0 0 ml mc (rho_new ρ h.n w.heap.size 0)
              simpa using this
            · cases hx
          · cases hx
        · cases hc
      · cases hc
    · cases hc
  · cases hc
end
end Go.Proofs.Ytbjgnogcjglcoaa.Hm
