/- slices.Sort on whole numbers as a function known by what it does (a prim of H). -/
import Derived.Test.YtbjgnogcjglcoaaSK3
namespace Go.Proofs.Ytbjgnogcjglcoaa.Hm
open Go Go.Proofs
set_option linter.all false
def decI : List Value → Option (List Int)
  | [] => some []
  | .int .i64 a :: r => (decI r).map (a :: ·)
  | _ => none
theorem decI_enc : ∀ {cs : List Value} {l : List Int}, decI cs = some l → cs = l.map (Value.int .i64) := by
  intro cs
  induction cs using decI.induct with
  | case1 => intro l h; cases h; rfl
  | case2 a r ih =>
    intro l h
    rw [decI] at h
    obtain ⟨m, hm, rfl⟩ := Option.map_eq_some_iff.1 h
    rw [ih hm]
    rfl
  | case3 t h1 h2 => intro l h; rw [decI] at h <;> first | cases h | assumption
def leI (x y : Int) : Bool := decide (x ≤ y)
def sortPI (lo : Nat) (vs : List Value) (h : Heap) : Option (Value × Heap) :=
  match vs with
  | [.slice a n cap] =>
      if n = 0 then some (.tuple #[], h) else if n < 4611686018427387904 then
      match a with
      | none => none
      | some ⟨b, o, _⟩ => match h.rd b o n with
        | none => none
        | some cs => match decI cs with
          | none => none
          | some l => (h.wr lo b o ((l.mergeSort leI).map (Value.int .i64))).map (.tuple #[], ·)
      else none
  | _ => none
theorem ints_vrl {ρ : Rho} {w : World} (l : List Int) : VRl ρ w (l.map (Value.int .i64)) (l.map (Value.int .i64)) ∧ ∀ v ∈ l.map (Value.int .i64), cell1 v = true := by
  refine ⟨⟨rfl, fun i hi => ?_⟩, fun v hv => ?_⟩
  · have hm : (l.map (Value.int .i64)).getD i undef ∈ l.map (Value.int .i64) := by rw [List.getD_eq_getElem?_getD, List.getElem?_eq_getElem hi]; simp
    obtain ⟨z, _, hz⟩ := List.mem_map.1 hm
    rw [← hz]; exact .int _ _
  · obtain ⟨z, _, rfl⟩ := List.mem_map.1 hv; rfl
theorem putRow_id {α : Type} [Inhabited α] (enc : α → Value) (w : World) (blk off : Nat) (d : Array α) : Sort.putRow enc w blk off d = Sort.putRow id w blk off (d.map enc) := by
  have : Sort.putCells enc off d = Sort.putCells id off (d.map enc) := by
    funext c
    apply Array.ext
    · simp [Sort.putCells]
    · intro i h1 h2
      simp only [Sort.putCells, Array.getElem_mapIdx, Array.size_map, id]
      split
      · rename_i hc
        have : i - off < d.size := by omega
        rw [getElem!_pos d (i - off) this, getElem!_pos (d.map enc) (i - off) (by simpa using this)]
        simp
      · rfl
  unfold Sort.putRow
  rw [this]
theorem holds_ints {lo n0 : Nat} {w0 w : World} {ρ : Rho} {h : Heap} (hI : Inv lo n0 w0 ρ h w) {b r s o : Nat} {l : List Int} (hb : ρ b = some (r, s)) (hlo : lo ≤ b) (hl : h.rd b o l.length = some (l.map (Value.int .i64))) : Sort.Holds (Value.int .i64) w r (s + o) l.toArray := by
  unfold Heap.rd at hl
  split at hl
  · rename_i cs hc
    split at hl
    · rename_i hle
      obtain ⟨c, e, fz, m1, m2, m3, m4⟩ := hI.row b r s cs hb hc
      obtain rfl := m2 hlo
      have hcs : (cs.drop o).take l.length = l.map (Value.int .i64) := by injection hl
      intro j hj
      have hj : j < l.length := by simpa using hj
      have h1 : (l.map (Value.int .i64))[j]? = cs[o + j]? := by rw [← hcs, List.getElem?_take, if_pos hj, List.getElem?_drop]
      have h2 : (l.map (Value.int .i64))[j]? = some (.int .i64 l[j]) := by simp [hj]
      have h3 := (m4 (o + j) (by omega)).1
      rw [List.getD_eq_getElem?_getD, ← h1, h2] at h3
      simp only [Option.getD_some] at h3
      have h4 := VR.int_l h3
      have hsz : s + (o + j) < c.size := by omega
      refine ⟨?_, by simp [World.frozen?, m1]⟩
      rw [cell_at m1, Nat.add_assoc, Array.getElem?_eq_getElem hsz]
      rw [Array.getD_eq_getD_getElem?, Array.getElem?_eq_getElem hsz] at h4
      rw [getElem!_pos l.toArray j (by simpa using hj)]
      simpa using h4
    · cases hl
  · cases hl
theorem sortPI_ok {P : Program} {k : Nat} {hf : HFn} (hc : compFn P k = some hf)
    (hnone : ∀ p cap w, Calls P k #[.slice p 0 cap] w fun e w' => e = .returned (.tuple #[]) ∧ w' = w)
    (hsort : ∀ blk off cap (zs : List Int) (w : World), Sort.Holds (Value.int .i64) w blk off zs.toArray → blk < w.heap.size → zs.length < 4611686018427387904 → Calls P k #[.slice (some ⟨blk, off, none⟩) zs.length cap] w fun e w' => e = .returned (.tuple #[]) ∧ ∃ n os, w' = Sort.grow (Sort.putRow (Value.int .i64) (Sort.ahead w n) blk off (zs.mergeSort leI).toArray) os) : PrimOK P k sortPI := by
  intro lo n0 w0 f vs h v h' hp ρ w args hI hV
  dsimp only at hp
  split at hp
  · rename_i hk
    subst hk
    obtain ⟨fn, c, h1, h2, h3, _⟩ := compFn_inv hc
    refine ⟨callFunc_enter h1 h2 h3 _ w, ?_⟩
    have vt : ∀ {ρ : Rho} {w : World}, VR ρ w (.tuple #[]) (.tuple #[]) := .tup #[] #[] rfl (fun i hi => absurd hi (by simp))
    unfold sortPI at hp
    split at hp
    · rename_i a n cap
      obtain ⟨x, rfl⟩ : ∃ x, args = #[x] := by
        have := hV.1
        match args, this with
        | ⟨[x]⟩, _ => exact ⟨x, rfl⟩
      have vx : VR ρ w (.slice a n cap) x := hV.2 0 (by simp)
      split at hp
      · rename_i hn
        cases hp
        subst hn
        obtain ⟨a', c', rfl⟩ : ∃ a' c', x = .slice a' 0 c' := by cases vx <;> exact ⟨_, _, rfl⟩
        refine (hnone a' c' w).mono fun e w' hq => ?_
        obtain ⟨rfl, rfl⟩ := hq
        exact ⟨_, ρ, rfl, hI, Ext.refl _ _ _, vt⟩
      · rename_i hn
        split at hp
        · rename_i hsz
          split at hp
          · cases hp
          · rename_i b o sp
            split at hp
            · cases hp
            · rename_i cs hrd
              split at hp
              · cases hp
              · rename_i l hl
                obtain ⟨h2', hw, e2⟩ := Option.map_eq_some_iff.1 hp
                cases e2
                obtain rfl := decI_enc hl
                have hlen : n = l.length := by
                  have h5 := hrd
                  unfold Heap.rd at h5
                  split at h5
                  · split at h5
                    · rename_i cs hc5 hle
                      have h6 : (cs.drop o).take n = l.map (Value.int .i64) := by injection h5
                      have := congrArg List.length h6
                      simp at this
                      omega
                    · cases h5
                  · cases h5
                subst hlen
                obtain ⟨r, s, c', rfl, hρ⟩ : ∃ r s c', x = .slice (some ⟨r, s + o, none⟩) l.length c' ∧ ρ b = some (r, s) := by
                  generalize l.length = n at *
                  cases vx <;> first
                    | exact absurd rfl hn
                    | exact ⟨_, _, _, rfl, by assumption⟩
                have hlo : lo ≤ b := by
                  have h5 := hw
                  unfold Heap.wr at h5
                  split at h5
                  · rename_i cs hc5
                    split at h5
                    · exact (put_spec hc5 h5).1
                    · cases h5
                  · cases h5
                refine (hsort r (s + o) c' l w (holds_ints hI hρ hlo hrd) (hI.dom b r s hρ).2 hsz).mono fun e w' hq => ?_
                obtain ⟨rfl, n, os, rfl⟩ := hq
                obtain ⟨z1, z2⟩ := ints_vrl (ρ := ρ) (w := w) (l.mergeSort leI)
                have e9 : ((l.mergeSort leI).toArray.map (Value.int .i64)).toList = (l.mergeSort leI).map (Value.int .i64) := by simp
                have key := inv_putRow P hI (F := (l.mergeSort leI).toArray.map (Value.int .i64)) (n := n) os hρ (by rw [e9]; exact hw) (by rw [e9]; exact z1) (by rw [e9]; exact z2)
                rw [putRow_id]
                exact ⟨_, ρ, rfl, key.1, key.2, vt⟩
        · cases hp
    · cases hp
  · cases hp
end Go.Proofs.Ytbjgnogcjglcoaa.Hm
