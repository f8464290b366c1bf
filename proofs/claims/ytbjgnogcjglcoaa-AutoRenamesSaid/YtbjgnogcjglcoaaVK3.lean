/- The tail of a growing slice, cleared. -/
import Derived.Test.YtbjgnogcjglcoaaVK1
namespace Go.Proofs.Ytbjgnogcjglcoaa.Hm.V
open Go
set_option linter.all false
def tailV (v : Value) (k e : Nat) : Value := match v with
  | .slice (some ⟨b, o, none⟩) n c => .slice (some ⟨b, if c = k then o else o + k * e, none⟩) (n - k) (c - k)
  | .slice (some ⟨b, o, some z⟩) n c => .slice (some ⟨b, o + k * e, some z⟩) (n - k) (c - k)
  | v => v
theorem wr_tail {lo b o : Nat} {h : Heap} {cs vs : List Value} (hc : h.cells b = some cs) (hl : o + vs.length = cs.length) : h.wr lo b o vs = h.wr lo b 0 (cs.take o ++ vs) := by
  have h1 : (cs.take o).length = o := by simp; omega
  unfold Heap.wr
  rw [hc]
  simp only [Nat.zero_add, List.length_append, h1, hl, Nat.le_refl, if_true, List.take_zero, List.nil_append, List.append_assoc]
section
variable {F : Nat → Option HFn} {lo N : Nat} {A : Tab} {Z : Vw} {O g : List Pt} {f : Pt → List Pt} {K : Value → Vw → List Pt → Prop} {x : Operand} {v : Value}
theorem X_clrG {e k : Nat} {xs : List (List Value)} {zero : List Value} [t : AtG O v e xs f g] (hx : evA A x = some (tailV v k e)) (hk : k ≤ xs.length) (hz : zero.length = e)
    (kk : K (.tuple #[]) Z (f (.gro v e (xs.take k ++ List.replicate (xs.length - k) zero)))) : X F lo (.clr zero x) N A Z O K :=
  fun R σ h hs m => by
    have hat := t.out
    have m1 := At.mem hat m
    have hx5 : ∀ y ∈ xs.take k ++ List.replicate (xs.length - k) zero, y.length = e := by
      intro y hy
      rcases List.mem_append.1 hy with hy | hy
      · exact (m1.own _ List.mem_cons_self).1 y (List.mem_of_mem_take hy)
      · rw [(List.mem_replicate.1 hy).2]; exact hz
    have hl5 : (xs.take k ++ List.replicate (xs.length - k) zero).length = xs.length := by simp; omega
    rcases Nat.lt_or_ge k xs.length with hlt | hge
    · obtain ⟨b, sp, cp, rfl, hrd, h', hw, m'⟩ := gro_whole m1 hl5 hx5 (by intro hh; rw [hh] at hlt; simp at hlt)
      have hown := m1.own _ List.mem_cons_self
      have hf := flat_len hown.1
      have hcells : h.cells b = some xs.flatten := by
        unfold Heap.rd at hrd
        split at hrd
        · rename_i cs hc
          split at hrd
          · rename_i hle
            obtain ⟨_, _, ⟨h9, _⟩ | ⟨b', c, fl, h9, h1, h2, h3, h4⟩ | ⟨b', h9, h1, h2⟩⟩ := hown
            · cases h9
            · cases h9; rw [cells_cls h2 h3 h4]
            · cases h9; rw [cells_row h2]
          · cases hrd
        · cases hrd
      have hcp : cp = xs.length := by
        obtain ⟨_, _, ⟨h9, _⟩ | ⟨b', c, fl, h9, h1, h2, h3, h4⟩ | ⟨b', h9, h1, h2⟩⟩ := hown
        · cases h9
        · cases h9; rfl
        · cases h9; rfl
      subst hcp
      have htk : (xs.take k).flatten = xs.flatten.take (k * e) := by
        have e1 : xs.flatten = (xs.take k).flatten ++ (xs.drop k).flatten := by rw [← List.flatten_append, List.take_append_drop]
        have e2 : (xs.take k).flatten.length = k * e := by
          rw [flat_len (fun y hy => hown.1 y (List.mem_of_mem_take hy)), List.length_take, Nat.min_eq_left hk]
        rw [e1, List.take_left' e2]
      have hzl : (List.replicate (xs.length - k) zero).flatten.length = (xs.length - k) * e := by
        rw [flat_len (e := e) (fun y hy => by rw [(List.mem_replicate.1 hy).2]; exact hz), List.length_replicate]
      have hmul : k * e + (xs.length - k) * e = xs.length * e := by rw [← Nat.add_mul]; congr 1; omega
      have hw2 : h.wr lo b (k * e) (List.replicate (xs.length - k) zero).flatten = some h' := by
        rw [wr_tail hcells (by rw [hzl, hf]; exact hmul), ← htk, ← List.flatten_append]
        exact hw
      have hev : ∃ c, tailV (.slice (some ⟨b, 0, sp⟩) xs.length xs.length) k e = .slice (some ⟨b, k * e, sp⟩) (xs.length - k) c := by
        cases sp with
        | none => exact ⟨xs.length - k, by have h9 : ¬ xs.length = k := by omega
                                           simp [tailV, h9]⟩
        | some z => exact ⟨xs.length - k, by simp [tailV]⟩
      obtain ⟨c, hev⟩ := hev
      rw [hev] at hx
      refine ⟨0, .tuple #[], h', Z, _, ?_, .refl _, At.back hat m', kk⟩
      rw [xo (by simp)]
      simp only [xop, evA_ok hs hx]
      rw [if_neg (by omega), hw2]; rfl
    · obtain rfl : k = xs.length := by omega
      have hsame : xs.take xs.length ++ List.replicate (xs.length - xs.length) zero = xs := by simp
      rw [hsame] at kk
      refine ⟨0, .tuple #[], h, Z, _, ?_, .refl _, At.back hat m1, kk⟩
      rw [xo (by simp)]
      obtain ⟨_, _, ⟨h9, h8⟩ | ⟨b', c, fl, h9, h1, h2, h3, h4⟩ | ⟨b', h9, h1, h2⟩⟩ := m1.own _ List.mem_cons_self
      · subst h9
        simp only [tailV] at hx
        simp only [xop, evA_ok hs hx]
      · subst h9
        simp only [tailV, Nat.sub_self] at hx
        simp only [xop, evA_ok hs hx, if_true]
      · subst h9
        simp only [tailV, Nat.sub_self] at hx
        simp only [xop, evA_ok hs hx, if_true]
theorem X_tailG {e k : Nat} {kd : IntKind} {i : Int} {xs : List (List Value)} {y : Operand} [t : AtG O v e xs f g] [ti : TN i k] (hx : evA A x = some v) (hy : evA A y = some (.int kd i)) (h0 : 0 ≤ i) (hk : k ≤ xs.length)
    (kk : K (tailV v k e) Z O) : X F lo (.slice e x (some y) none none) N A Z O K :=
  fun R σ h hs m => by
    have hat := t.out
    have hti : i.toNat = k := ti.out
    have m1 := At.mem hat m
    refine ⟨0, tailV v k e, h, Z, O, ?_, .refl _, m, kk⟩
    rw [xo (by simp)]
    have hsn : ∀ d : Nat, seen (some (.int kd i)) d = some k := fun d => by simp [seen, h0, hti]
    obtain ⟨_, _, ⟨h9, h8⟩ | ⟨b', c, fl, h9, h1, h2, h3, h4⟩ | ⟨b', h9, h1, h2⟩⟩ := m1.own _ List.mem_cons_self
    · subst h9
      subst h8
      have hk0 : k = 0 := by simpa using hk
      subst hk0
      simp only [xop, evA_ok hs hx, Option.map_some, Option.map_none, evA_ok hs hy, sliceOf, hsn, tailV]
      simp [seen]
    · subst h9
      simp only [xop, evA_ok hs hx, Option.map_some, Option.map_none, evA_ok hs hy, sliceOf, hsn, tailV]
      simp [seen, hk]
    · subst h9
      simp only [xop, evA_ok hs hx, Option.map_some, Option.map_none, evA_ok hs hy, sliceOf, hsn, tailV]
      simp [seen, hk]
theorem X_lenTail {e k : Nat} {xs : List (List Value)} [t : AtG O v e xs f g] (hx : evA A x = some (tailV v k e)) (hk : k ≤ xs.length) (kk : K (.int .i64 ((xs.length - k : Nat) : Int)) Z O) : X F lo (.len x) N A Z O K :=
  fun R σ h hs m => by
    have m1 := At.mem t.out m
    refine ⟨0, .int .i64 ((xs.length - k : Nat) : Int), h, Z, O, ?_, .refl _, m, kk⟩
    rw [xo (by simp)]
    obtain ⟨_, _, ⟨h9, h8⟩ | ⟨b', c, fl, h9, h1, h2, h3, h4⟩ | ⟨b', h9, h1, h2⟩⟩ := m1.own _ List.mem_cons_self
    · subst h9
      subst h8
      simp only [tailV] at hx
      simp [xop, evA_ok hs hx]
    · subst h9
      simp only [tailV] at hx
      simp [xop, evA_ok hs hx]
    · subst h9
      simp only [tailV] at hx
      simp [xop, evA_ok hs hx]
theorem X_iaTail {e k j : Nat} {kd : IntKind} {i : Int} {xs : List (List Value)} {y : Operand} [t : AtG O v e xs f g] [ti : TN i j] (hx : evA A x = some (tailV v k e)) (hy : evA A y = some (.int kd i)) (h0 : 0 ≤ i) (hk : k + j < xs.length)
    (kk : K (.pointer (some ⟨bb v, oo v + (k + j) * e, none⟩)) Z O) : X F lo (.iaddr e x y) N A Z O K :=
  fun R σ h hs m => by
    have hti : i.toNat = j := ti.out
    have m1 := At.mem t.out m
    refine ⟨0, .pointer (some ⟨bb v, oo v + (k + j) * e, none⟩), h, Z, O, ?_, .refl _, m, kk⟩
    rw [xo (by simp)]
    have hlt : i < ((xs.length - k : Nat) : Int) := by omega
    obtain ⟨_, _, ⟨h9, h8⟩ | ⟨b', c, fl, h9, h1, h2, h3, h4⟩ | ⟨b', h9, h1, h2⟩⟩ := m1.own _ List.mem_cons_self
    · subst h8
      simp at hk
    · subst h9
      simp only [tailV] at hx
      simp only [xop, evA_ok hs hx, evA_ok hs hy]
      rw [if_pos ⟨h0, hlt⟩, hti]
      simp [bb, oo, Nat.add_mul]
    · subst h9
      have hne : ¬ xs.length = k := by omega
      simp only [tailV, if_neg hne] at hx
      simp only [xop, evA_ok hs hx, evA_ok hs hy]
      rw [if_pos ⟨h0, hlt⟩, hti]
      simp [bb, oo, Nat.add_mul]
end
end Go.Proofs.Ytbjgnogcjglcoaa.Hm.V
