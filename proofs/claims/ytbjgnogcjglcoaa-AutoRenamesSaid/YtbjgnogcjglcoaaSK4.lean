/- slices.SortFunc on edges as a function known by what it does (a prim of H). -/
import Derived.Test.YtbjgnogcjglcoaaSK2
import Derived.Test.YtbjgnogcjglcoaaSK3
import Derived.Shelf.GgSortFunc.RowK
namespace Go.Proofs.Ytbjgnogcjglcoaa.Hm
open Go Go.Proofs
set_option linter.all false
def decT : List Value → Option (List FT)
  | [] => some []
  | .int .i64 a :: .int .i64 b :: .int .i64 c :: r => if h : fineT (a, b, c) then (decT r).map (⟨(a, b, c), h⟩ :: ·) else none
  | _ => none
theorem decT_enc : ∀ {cs : List Value} {l : List FT}, decT cs = some l → cs = (l.map encT).flatten := by
  intro cs
  induction cs using decT.induct with
  | case1 => intro l h; cases h; rfl
  | case2 a b c r hf ih =>
    intro l h
    rw [decT, dif_pos hf] at h
    obtain ⟨m, hm, rfl⟩ := Option.map_eq_some_iff.1 h
    rw [ih hm]
    rfl
  | case3 a b c r hf => intro l h; rw [decT, dif_neg hf] at h; cases h
  | case4 t h1 h2 => intro l h; rw [decT] at h <;> first | cases h | assumption
def leT (x y : FT) : Bool := !decide (cfT y x < 0)
def flatT (l : List FT) : List Value := (l.map encT).flatten
def sortP (g lo : Nat) (vs : List Value) (h : Heap) : Option (Value × Heap) :=
  match vs with
  | [.slice a n cap, .func (.func g') fa fc] =>
    if g' = g ∧ fa.size = 0 ∧ fc.size = 0 then
      if n = 0 then some (.tuple #[], h) else if n < 4611686018427387904 then
      match a with
      | none => none
      | some ⟨b, o, _⟩ => match h.rd b o (n * 3) with
        | none => none
        | some cs => match decT cs with
          | none => none
          | some l => (h.wr lo b o (flatT (l.mergeSort leT))).map (.tuple #[], ·)
      else none
    else none
  | _ => none
theorem flatT_len (l : List FT) : (flatT l).length = l.length * 3 := by
  induction l with
  | nil => rfl
  | cons x l ih => simp only [flatT, List.map_cons, List.flatten_cons, List.length_append, List.length_cons] at ih ⊢; rw [ih]; simp [encT]; omega
theorem flatT_get : ∀ (l : List FT) (t : Nat), t < l.length * 3 → (flatT l)[t]? = some ((encT (l.toArray[t / 3]!))[t % 3]!)
  | [], t, h => by simp at h
  | x :: l, t, h => by
    have e : flatT (x :: l) = encT x ++ flatT l := rfl
    rw [e]
    rcases Nat.lt_or_ge t 3 with h3 | h3
    · rw [List.getElem?_append_left (by simpa [encT] using h3)]
      rcases (by omega : t = 0 ∨ t = 1 ∨ t = 2) with rfl | rfl | rfl <;> simp [encT]
    · rw [List.getElem?_append_right (by simpa [encT] using h3)]
      simp only [List.length_cons] at h
      rw [show (encT x).length = 3 from rfl, flatT_get l (t - 3) (by omega), show t / 3 = (t - 3) / 3 + 1 by omega, show t % 3 = (t - 3) % 3 by omega]
      simp
theorem flatK_list (l : List FT) : (Go.Sort.flatK encT 3 l.toArray).toList = flatT l := by
  apply List.ext_getElem?
  intro t
  rcases Nat.lt_or_ge t (l.length * 3) with h | h
  · rw [flatT_get l t h]
    have := Go.Sort.get_flatK encT 3 l.toArray t (by simpa using h)
    rw [getElem!_pos _ t (by simpa using h)] at this
    rw [Array.getElem?_toList, Array.getElem?_eq_getElem (by simpa using h), this]
  · rw [List.getElem?_eq_none (by simpa using h), List.getElem?_eq_none (by rw [flatT_len]; exact h)]
theorem flatT_ints (l : List FT) : (∀ v ∈ flatT l, ∃ z, v = .int .i64 z) := by
  intro v hv
  obtain ⟨x, hx, hv⟩ := List.mem_flatten.1 hv
  obtain ⟨y, _, rfl⟩ := List.mem_map.1 hx
  simp only [encT, List.mem_cons, List.not_mem_nil, or_false] at hv
  rcases hv with rfl | rfl | rfl <;> exact ⟨_, rfl⟩
theorem flatT_vrl {ρ : Rho} {w : World} (l : List FT) : VRl ρ w (flatT l) (flatT l) ∧ ∀ v ∈ flatT l, cell1 v = true := by
  refine ⟨⟨rfl, fun i hi => ?_⟩, fun v hv => ?_⟩
  · have hm : (flatT l).getD i undef ∈ flatT l := by rw [List.getD_eq_getElem?_getD, List.getElem?_eq_getElem hi]; simp
    obtain ⟨z, hz⟩ := flatT_ints l _ hm
    rw [hz]; exact .int _ _
  · obtain ⟨z, rfl⟩ := flatT_ints l _ hv; rfl
theorem holds_row {lo n0 : Nat} {w0 w : World} {ρ : Rho} {h : Heap} (hI : Inv lo n0 w0 ρ h w) {b r s o : Nat} {l : List FT} (hb : ρ b = some (r, s)) (hlo : lo ≤ b) (hl : h.rd b o (l.length * 3) = some (flatT l)) : Sort.HoldsK encT 3 w r (s + o) l.toArray := by
  unfold Heap.rd at hl
  split at hl
  · rename_i cs hc
    split at hl
    · rename_i hle
      obtain ⟨c, e, fz, m1, m2, m3, m4⟩ := hI.row b r s cs hb hc
      obtain rfl := m2 hlo
      have hcs : (cs.drop o).take (l.length * 3) = flatT l := by injection hl
      intro j hj
      have hj : j < l.length * 3 := by simpa using hj
      have h1 : (flatT l)[j]? = cs[o + j]? := by rw [← hcs, List.getElem?_take, if_pos hj, List.getElem?_drop]
      have h2 := flatT_get l j hj
      obtain ⟨z, hz⟩ := flatT_ints l _ (List.mem_of_getElem? h2)
      have h3 := (m4 (o + j) (by omega)).1
      rw [List.getD_eq_getElem?_getD, ← h1, h2, hz] at h3
      simp only [Option.getD_some] at h3
      have h4 := VR.int_l h3
      have hsz : s + (o + j) < c.size := by omega
      refine ⟨?_, by simp [World.frozen?, m1]⟩
      rw [cell_at m1, Nat.add_assoc, Array.getElem?_eq_getElem hsz, Sort.get_flatK encT 3 l.toArray j (by simpa using hj), hz]
      simp only [id]
      rw [Array.getD_eq_getD_getElem?, Array.getElem?_eq_getElem hsz] at h4
      simpa using h4
    · cases hl
  · cases hl
theorem sortP_ok {P : Program} {k g : Nat} {hf : HFn} (hc : compFn P k = some hf)
    (hnone : ∀ p cap fv w, Calls P k #[.slice p 0 cap, fv] w fun e w' => e = .returned (.tuple #[]) ∧ w' = w)
    (hsort : ∀ blk off cap (d : Array FT) (w : World), Sort.HoldsK encT 3 w blk off d → blk < w.heap.size → d.size < 4611686018427387904 → Calls P k #[.slice (some ⟨blk, off, none⟩) d.size cap, .func (.func g) #[] #[]] w fun e w' => e = .returned (.tuple #[]) ∧ ∃ n os, w' = Sort.grow (Sort.putRow id (Sort.ahead w n) blk off (Sort.flatK encT 3 (d.toList.mergeSort leT).toArray)) os) : PrimOK P k (sortP g) := by
  intro lo n0 w0 f vs h v h' hp ρ w args hI hV
  dsimp only at hp
  split at hp
  · rename_i hk
    subst hk
    obtain ⟨fn, c, h1, h2, h3, _⟩ := compFn_inv hc
    refine ⟨callFunc_enter h1 h2 h3 _ w, ?_⟩
    have vt : ∀ {ρ : Rho} {w : World}, VR ρ w (.tuple #[]) (.tuple #[]) := .tup #[] #[] rfl (fun i hi => absurd hi (by simp))
    unfold sortP at hp
    split at hp
    · rename_i a n cap g' fa fc
      split at hp
      · rename_i hg
        obtain ⟨rfl, ha, hcc⟩ := hg
        obtain ⟨x, y, rfl⟩ : ∃ x y, args = #[x, y] := by
          have := hV.1
          match args, this with
          | ⟨[x, y]⟩, _ => exact ⟨x, y, rfl⟩
        have vx : VR ρ w (.slice a n cap) x := hV.2 0 (by simp)
        have vy : VR ρ w (.func (.func g') fa fc) y := hV.2 1 (by simp)
        split at hp
        · rename_i hn
          cases hp
          subst hn
          obtain ⟨a', c', rfl⟩ : ∃ a' c', x = .slice a' 0 c' := by cases vx <;> exact ⟨_, _, rfl⟩
          refine (hnone a' c' y w).mono fun e w' hq => ?_
          obtain ⟨rfl, rfl⟩ := hq
          exact ⟨_, ρ, rfl, hI, Ext.refl _ _ _, vt⟩
        · rename_i hn
          split at hp
          · rename_i hsz
            split at hp
            · cases hp
            · rename_i b o sp
              split at hp
              · cases hp
              · rename_i cs hrd
                split at hp
                · cases hp
                · rename_i l hl
                  obtain ⟨h2', hw, e2⟩ := Option.map_eq_some_iff.1 hp
                  cases e2
                  obtain rfl := decT_enc hl
                  change h.rd b o (n * 3) = some (flatT l) at hrd
                  have hlen : n = l.length := by
                    have h5 := hrd
                    unfold Heap.rd at h5
                    split at h5
                    · split at h5
                      · rename_i cs hc5 hle
                        have h6 : (cs.drop o).take (n * 3) = flatT l := by injection h5
                        have := congrArg List.length h6
                        rw [flatT_len] at this
                        simp at this
                        omega
                      · cases h5
                    · cases h5
                  subst hlen
                  obtain ⟨r, s, c', rfl, hρ⟩ : ∃ r s c', x = .slice (some ⟨r, s + o, none⟩) l.length c' ∧ ρ b = some (r, s) := by
                    generalize l.length = n at *
                    cases vx <;> first
                      | exact absurd rfl hn
                      | exact ⟨_, _, _, rfl, by assumption⟩
                  obtain rfl : y = .func (.func g') #[] #[] := by
                    cases vy with
                    | fn f a a' c c' ha' hc' hva hvc =>
                      obtain rfl : a' = #[] := Array.size_eq_zero_iff.1 (by omega)
                      obtain rfl : c' = #[] := Array.size_eq_zero_iff.1 (by omega)
                      rfl
                  have hlo : lo ≤ b := by
                    have h5 := hw
                    unfold Heap.wr at h5
                    split at h5
                    · rename_i cs hc5
                      split at h5
                      · exact (put_spec hc5 h5).1
                      · cases h5
                    · cases h5
                  refine (hsort r (s + o) c' l.toArray w (holds_row hI hρ hlo hrd) (hI.dom b r s hρ).2 (by simpa using hsz)).mono fun e w' hq => ?_
                  obtain ⟨rfl, n, os, rfl⟩ := hq
                  obtain ⟨z1, z2⟩ := flatT_vrl (ρ := ρ) (w := w) (l.mergeSort leT)
                  have key := inv_putRow P hI (F := Sort.flatK encT 3 (l.mergeSort leT).toArray) (n := n) os hρ (by rw [flatK_list]; exact hw) (by rw [flatK_list]; exact z1) (by rw [flatK_list]; exact z2)
                  exact ⟨_, ρ, rfl, key.1, key.2, vt⟩
          · cases hp
      · cases hp
    · cases hp
  · cases hp
end Go.Proofs.Ytbjgnogcjglcoaa.Hm
