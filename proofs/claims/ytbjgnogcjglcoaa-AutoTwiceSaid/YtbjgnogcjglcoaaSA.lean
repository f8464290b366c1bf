import Derived.Test.YtbjgnogcjglcoaaA4
import Derived.Sort.Statements
import Derived.Shelf.GgSortFunc.RowK
import Derived.Sort.Row
import Derived.Sort.Grow
namespace Go.Proofs.Ytbjgnogcjglcoaa.Hm
open Go Go.Sort Go.RowKit
set_option linter.all false
def cfE (xf xl xt yf yl yt : Int) : Int := if xf = yf then (if xl = yl then wrap64 (xt - yt) else wrap64 (xl - yl)) else wrap64 (xf - yf)
def fineT (x : Int × Int × Int) : Prop := 0 ≤ x.1 ∧ x.1 < 4611686018427387904 ∧ 0 ≤ x.2.1 ∧ x.2.1 < 4611686018427387904 ∧ 0 ≤ x.2.2 ∧ x.2.2 < 4611686018427387904
instance (x : Int × Int × Int) : Decidable (fineT x) := by unfold fineT; infer_instance
abbrev FT := {x : Int × Int × Int // fineT x}
instance : Inhabited FT := ⟨⟨(0, 0, 0), by decide⟩⟩
def encT (x : FT) : List Value := [.int .i64 x.1.1, .int .i64 x.1.2.1, .int .i64 x.1.2.2]
def cfT (x y : FT) : Int := cfE x.1.1 x.1.2.1 x.1.2.2 y.1.1 y.1.2.1 y.1.2.2
def ltT (x y : FT) : Prop := x.1.1 < y.1.1 ∨ (x.1.1 = y.1.1 ∧ (x.1.2.1 < y.1.2.1 ∨ (x.1.2.1 = y.1.2.1 ∧ x.1.2.2 < y.1.2.2)))
theorem cfT_lt (x y : FT) : cfT x y < 0 ↔ ltT x y := by
  obtain ⟨⟨a, b, c⟩, h1, h2, h3, h4, h5, h6⟩ := x
  obtain ⟨⟨d, e, f⟩, k1, k2, k3, k4, k5, k6⟩ := y
  simp only at h1 h2 h3 h4 h5 h6 k1 k2 k3 k4 k5 k6
  simp only [cfT, cfE, ltT, wrap64]
  split
  · split <;> omega
  · omega
theorem cfT_dec (x y : FT) : decide (cfT x y < 0) = true ↔ ltT x y := by rw [decide_eq_true_eq, cfT_lt]
theorem cfT_no (x y : FT) (h : decide (cfT x y < 0) = false) : ¬ ltT x y := fun hh => absurd ((cfT_dec _ _).2 hh) (by rw [h]; exact Bool.false_ne_true)
theorem ltT_swo : SWO (fun x y : FT => decide (cfT x y < 0)) where
  irrefl x := by rw [Bool.eq_false_iff]; intro h; have := (cfT_dec _ _).1 h; unfold ltT at this; omega
  trans x y z h1 h2 := by
    have h1 := (cfT_dec _ _).1 h1
    have h2 := (cfT_dec _ _).1 h2
    refine (cfT_dec _ _).2 ?_
    unfold ltT at *; omega
  ntrans x y z h1 h2 := by
    have h1 := cfT_no _ _ h1
    have h2 := cfT_no _ _ h2
    rw [Bool.eq_false_iff]
    intro h
    have h := (cfT_dec _ _).1 h
    revert h1 h2 h
    unfold ltT
    omega
theorem ltT_total (x y : FT) (h1 : decide (cfT x y < 0) = false) (h2 : decide (cfT y x < 0) = false) : x = y := by
  have h1 := cfT_no _ _ h1
  have h2 := cfT_no _ _ h2
  obtain ⟨⟨a, b, c⟩, hx⟩ := x
  obtain ⟨⟨d, e, f⟩, hy⟩ := y
  revert h1 h2
  unfold ltT
  intro h1 h2
  have : a = d ∧ b = e ∧ c = f := by simp only at h1 h2; omega
  obtain ⟨rfl, rfl, rfl⟩ := this
  rfl
end Go.Proofs.Ytbjgnogcjglcoaa.Hm
namespace Go.Proofs.Ytbjgnogcjglcoaa.Hm
open Go
set_option linter.all false
theorem putCells_splice {c : Array Value} {o : Nat} {F : Array Value} (h : o + F.size ≤ c.size) : Sort.putCells id o F c = spliceA c o F.toList := by
  apply Array.ext
  · rw [spliceA_size]; simp [Sort.putCells]
  · intro i h1 h2
    have hi : i < c.size := by rw [spliceA_size] at h2; exact h2
    have e := spliceA_get F.toList c o (by simpa using h) i
    have e2 : (spliceA c o F.toList)[i] = (spliceA c o F.toList).getD i undef := by simp [Array.getD_eq_getD_getElem?, h2]
    rw [e2, e]
    unfold Sort.putCells
    simp only [Array.getElem_mapIdx, id, Array.length_toList]
    split
    · rename_i hc
      have : i - o < F.size := by omega
      rw [getElem!_pos F (i - o) this, List.getD_eq_getElem?_getD, List.getElem?_eq_getElem (by simpa using this)]
      simp
    · simp [Array.getD_eq_getD_getElem?, hi]
variable {lo n0 : Nat} {w0 : World} {ρ : Rho} {h : Heap} {w : World}
theorem inv_putRow (P : Program) (hI : Inv lo n0 w0 ρ h w) {b r s o n : Nat} {F : Array Value} {h' : Heap} (os : Array Obj) (hb : ρ b = some (r, s)) (hw : h.wr lo b o F.toList = some h') (hv : VRl ρ w F.toList F.toList) (h1 : ∀ v ∈ F.toList, cell1 v = true) :
    Inv lo n0 w0 ρ h' (Sort.grow (Sort.putRow id (Sort.ahead w n) r (s + o) F) os) ∧ Ext ρ ρ h h' w (Sort.grow (Sort.putRow id (Sort.ahead w n) r (s + o) F) os) := by
  obtain ⟨w1, k1, k2, k3⟩ := hI.wr (P := P) hb hw hv h1 h1
  have hw2 := hw
  unfold Heap.wr at hw2
  split at hw2
  · rename_i cs hc
    split at hw2
    · rename_i hle
      obtain ⟨hlo, _⟩ := put_spec hc hw2
      obtain ⟨c, e, fz, m1, m2, m3, m4⟩ := hI.row b r s cs hb hc
      obtain rfl := m2 hlo
      have hfit : s + o + F.toList.length ≤ c.size := by omega
      have hrun := run_storeCells (P := P) m1 hfit h1
      rw [hrun] at k1
      obtain rfl : setRow w r (.cells (spliceA c (s + o) F.toList) e (0, 0)) = w1 := by injection k1
      have hr : r < w.heap.size := (hI.dom b r s hb).2
      have hheap : (Sort.putRow id (Sort.ahead w n) r (s + o) F).heap = (setRow w r (.cells (spliceA c (s + o) F.toList) e (0, 0))).heap := by
        apply Array.ext_getElem?
        intro k
        rw [setRow_get]
        show (w.heap.modify r (Sort.onCells (Sort.putCells id (s + o) F)))[k]? = _
        rw [Array.getElem?_modify]
        by_cases hk : r = k
        · subst hk
          rw [if_pos rfl, if_pos ⟨rfl, hr⟩, m1, ← putCells_splice (by simpa using hfit)]
          rfl
        · rw [if_neg hk, if_neg (fun hh => hk hh.1.symm)]
      have hsz : (setRow w r (.cells (spliceA c (s + o) F.toList) e (0, 0))).heap.size = w.heap.size := by simp [setRow]
      have hget : ∀ k, k < w.heap.size → (Sort.grow (Sort.putRow id (Sort.ahead w n) r (s + o) F) os).heap[k]? = (setRow w r (.cells (spliceA c (s + o) F.toList) e (0, 0))).heap[k]? := by
        intro k hk
        show ((Sort.putRow id (Sort.ahead w n) r (s + o) F).heap ++ os)[k]? = _
        rw [hheap, Array.getElem?_append_left (by rw [hsz]; exact hk)]
      have hrs : ∀ k, rowSize (setRow w r (.cells (spliceA c (s + o) F.toList) e (0, 0))) k ≤ rowSize (Sort.grow (Sort.putRow id (Sort.ahead w n) r (s + o) F) os) k := by
        intro k
        unfold rowSize
        rcases Nat.lt_or_ge k w.heap.size with hk | hk
        · rw [hget k hk]; exact Nat.le_refl _
        · rw [Array.getElem?_eq_none (by rw [hsz]; exact hk)]; exact Nat.zero_le _
      have hn0 : n0 ≤ w.heap.size := Nat.le_trans hI.n0le hI.below.size
      have hbel : RowKit.Below n0 (setRow w r (.cells (spliceA c (s + o) F.toList) e (0, 0))) (Sort.grow (Sort.putRow id (Sort.ahead w n) r (s + o) F) os) :=
        ⟨rfl, rfl, rfl, by show _ ≤ ((Sort.putRow id (Sort.ahead w n) r (s + o) F).heap ++ os).size; rw [Array.size_append, hheap]; omega, fun k hk => hget k (by omega)⟩
      refine ⟨k2.world hbel (fun b' r' s' hb' => hget r' (by have := (k2.dom b' r' s' hb').2; rw [hsz] at this; exact this)) hrs, k3.le, fun k => Nat.le_trans (k3.sz k) (hrs k), k3.n, k3.keep⟩
    · cases hw2
  · cases hw2
end Go.Proofs.Ytbjgnogcjglcoaa.Hm
namespace Go.Proofs.Ytbjgnogcjglcoaa.Hm
open Go Go.Proofs
set_option linter.all false
def decT : List Value → Option (List FT)
  | [] => some []
  | .int .i64 a :: .int .i64 b :: .int .i64 c :: r => if h : fineT (a, b, c) then (decT r).map (⟨(a, b, c), h⟩ :: ·) else none
  | _ => none
theorem decT_enc : ∀ {cs : List Value} {l : List FT}, decT cs = some l → cs = (l.map encT).flatten := by
  intro cs
  induction cs using decT.induct with
  | case1 => intro l h; cases h; rfl
  | case2 a b c r hf ih =>
    intro l h
    rw [decT, dif_pos hf] at h
    obtain ⟨m, hm, rfl⟩ := Option.map_eq_some_iff.1 h
    rw [ih hm]
    rfl
  | case3 a b c r hf => intro l h; rw [decT, dif_neg hf] at h; cases h
  | case4 t h1 h2 => intro l h; rw [decT] at h <;> first | cases h | assumption
def leT (x y : FT) : Bool := !decide (cfT y x < 0)
def flatT (l : List FT) : List Value := (l.map encT).flatten
def sortP (g lo : Nat) (vs : List Value) (h : Heap) : Option (Value × Heap) :=
  match vs with
  | [.slice a n cap, .func (.func g') fa fc] =>
    if g' = g ∧ fa.size = 0 ∧ fc.size = 0 then
      if n = 0 then some (.tuple #[], h) else if n < 4611686018427387904 then
      match a with
      | none => none
      | some ⟨b, o, _⟩ => match h.rd b o (n * 3) with
        | none => none
        | some cs => match decT cs with
          | none => none
          | some l => (h.wr lo b o (flatT (l.mergeSort leT))).map (.tuple #[], ·)
      else none
    else none
  | _ => none
theorem flatT_len (l : List FT) : (flatT l).length = l.length * 3 := by
  induction l with
  | nil => rfl
  | cons x l ih => simp only [flatT, List.map_cons, List.flatten_cons, List.length_append, List.length_cons] at ih ⊢; rw [ih]; simp [encT]; omega
theorem flatT_get : ∀ (l : List FT) (t : Nat), t < l.length * 3 → (flatT l)[t]? = some ((encT (l.toArray[t / 3]!))[t % 3]!)
  | [], t, h => by simp at h
  | x :: l, t, h => by
    have e : flatT (x :: l) = encT x ++ flatT l := rfl
    rw [e]
    rcases Nat.lt_or_ge t 3 with h3 | h3
    · rw [List.getElem?_append_left (by simpa [encT] using h3)]
      rcases (by omega : t = 0 ∨ t = 1 ∨ t = 2) with rfl | rfl | rfl <;> simp [encT]
    · rw [List.getElem?_append_right (by simpa [encT] using h3)]
      simp only [List.length_cons] at h
      rw [show (encT x).length = 3 from rfl, flatT_get l (t - 3) (by omega), show t / 3 = (t - 3) / 3 + 1 by omega, show t % 3 = (t - 3) % 3 by omega]
      simp
theorem flatK_list (l : List FT) : (Go.Sort.flatK encT 3 l.toArray).toList = flatT l := by
  apply List.ext_getElem?
  intro t
  rcases Nat.lt_or_ge t (l.length * 3) with h | h
  · rw [flatT_get l t h]
    have := Go.Sort.get_flatK encT 3 l.toArray t (by simpa using h)
    rw [getElem!_pos _ t (by simpa using h)] at this
    rw [Array.getElem?_toList, Array.getElem?_eq_getElem (by simpa using h), this]
  · rw [List.getElem?_eq_none (by simpa using h), List.getElem?_eq_none (by rw [flatT_len]; exact h)]
theorem flatT_ints (l : List FT) : (∀ v ∈ flatT l, ∃ z, v = .int .i64 z) := by
  intro v hv
  obtain ⟨x, hx, hv⟩ := List.mem_flatten.1 hv
  obtain ⟨y, _, rfl⟩ := List.mem_map.1 hx
  simp only [encT, List.mem_cons, List.not_mem_nil, or_false] at hv
  rcases hv with rfl | rfl | rfl <;> exact ⟨_, rfl⟩
theorem flatT_vrl {ρ : Rho} {w : World} (l : List FT) : VRl ρ w (flatT l) (flatT l) ∧ ∀ v ∈ flatT l, cell1 v = true := by
  refine ⟨⟨rfl, fun i hi => ?_⟩, fun v hv => ?_⟩
  · have hm : (flatT l).getD i undef ∈ flatT l := by rw [List.getD_eq_getElem?_getD, List.getElem?_eq_getElem hi]; simp
    obtain ⟨z, hz⟩ := flatT_ints l _ hm
    rw [hz]; exact .int _ _
  · obtain ⟨z, rfl⟩ := flatT_ints l _ hv; rfl
theorem holds_row {lo n0 : Nat} {w0 w : World} {ρ : Rho} {h : Heap} (hI : Inv lo n0 w0 ρ h w) {b r s o : Nat} {l : List FT} (hb : ρ b = some (r, s)) (hlo : lo ≤ b) (hl : h.rd b o (l.length * 3) = some (flatT l)) : Sort.HoldsK encT 3 w r (s + o) l.toArray := by
  unfold Heap.rd at hl
  split at hl
  · rename_i cs hc
    split at hl
    · rename_i hle
      obtain ⟨c, e, fz, m1, m2, m3, m4⟩ := hI.row b r s cs hb hc
      obtain rfl := m2 hlo
      have hcs : (cs.drop o).take (l.length * 3) = flatT l := by injection hl
      intro j hj
      have hj : j < l.length * 3 := by simpa using hj
      have h1 : (flatT l)[j]? = cs[o + j]? := by rw [← hcs, List.getElem?_take, if_pos hj, List.getElem?_drop]
      have h2 := flatT_get l j hj
      obtain ⟨z, hz⟩ := flatT_ints l _ (List.mem_of_getElem? h2)
      have h3 := (m4 (o + j) (by omega)).1
      rw [List.getD_eq_getElem?_getD, ← h1, h2, hz] at h3
      simp only [Option.getD_some] at h3
      have h4 := VR.int_l h3
      have hsz : s + (o + j) < c.size := by omega
      refine ⟨?_, by simp [World.frozen?, m1]⟩
      rw [cell_at m1, Nat.add_assoc, Array.getElem?_eq_getElem hsz, Sort.get_flatK encT 3 l.toArray j (by simpa using hj), hz]
      simp only [id]
      rw [Array.getD_eq_getD_getElem?, Array.getElem?_eq_getElem hsz] at h4
      simpa using h4
    · cases hl
  · cases hl
theorem sortP_ok {P : Program} {k g : Nat} {hf : HFn} (hc : compFn P k = some hf)
    (hnone : ∀ p cap fv w, Calls P k #[.slice p 0 cap, fv] w fun e w' => e = .returned (.tuple #[]) ∧ w' = w)
    (hsort : ∀ blk off cap (d : Array FT) (w : World), Sort.HoldsK encT 3 w blk off d → blk < w.heap.size → d.size < 4611686018427387904 → Calls P k #[.slice (some ⟨blk, off, none⟩) d.size cap, .func (.func g) #[] #[]] w fun e w' => e = .returned (.tuple #[]) ∧ ∃ n os, w' = Sort.grow (Sort.putRow id (Sort.ahead w n) blk off (Sort.flatK encT 3 (d.toList.mergeSort leT).toArray)) os) : PrimOK P k (sortP g) := by
  intro lo n0 w0 f vs h v h' hp ρ w args hI hV
  dsimp only at hp
  split at hp
  · rename_i hk
    subst hk
    obtain ⟨fn, c, h1, h2, h3, _⟩ := compFn_inv hc
    refine ⟨callFunc_enter h1 h2 h3 _ w, ?_⟩
    have vt : ∀ {ρ : Rho} {w : World}, VR ρ w (.tuple #[]) (.tuple #[]) := .tup #[] #[] rfl (fun i hi => absurd hi (by simp))
    unfold sortP at hp
    split at hp
    · rename_i a n cap g' fa fc
      split at hp
      · rename_i hg
        obtain ⟨rfl, ha, hcc⟩ := hg
        obtain ⟨x, y, rfl⟩ : ∃ x y, args = #[x, y] := by
          have := hV.1
          match args, this with
          | ⟨[x, y]⟩, _ => exact ⟨x, y, rfl⟩
        have vx : VR ρ w (.slice a n cap) x := hV.2 0 (by simp)
        have vy : VR ρ w (.func (.func g') fa fc) y := hV.2 1 (by simp)
        split at hp
        · rename_i hn
          cases hp
          subst hn
          obtain ⟨a', c', rfl⟩ : ∃ a' c', x = .slice a' 0 c' := by cases vx <;> exact ⟨_, _, rfl⟩
          refine (hnone a' c' y w).mono fun e w' hq => ?_
          obtain ⟨rfl, rfl⟩ := hq
          exact ⟨_, ρ, rfl, hI, Ext.refl _ _ _, vt⟩
        · rename_i hn
          split at hp
          · rename_i hsz
            split at hp
            · cases hp
            · rename_i b o sp
              split at hp
              · cases hp
              · rename_i cs hrd
                split at hp
                · cases hp
                · rename_i l hl
                  obtain ⟨h2', hw, e2⟩ := Option.map_eq_some_iff.1 hp
                  cases e2
                  obtain rfl := decT_enc hl
                  change h.rd b o (n * 3) = some (flatT l) at hrd
                  have hlen : n = l.length := by
                    have h5 := hrd
                    unfold Heap.rd at h5
                    split at h5
                    · split at h5
                      · rename_i cs hc5 hle
                        have h6 : (cs.drop o).take (n * 3) = flatT l := by injection h5
                        have := congrArg List.length h6
                        rw [flatT_len] at this
                        simp at this
                        omega
                      · cases h5
                    · cases h5
                  subst hlen
                  obtain ⟨r, s, c', rfl, hρ⟩ : ∃ r s c', x = .slice (some ⟨r, s + o, none⟩) l.length c' ∧ ρ b = some (r, s) := by
                    generalize l.length = n at *
                    cases vx <;> first
                      | exact absurd rfl hn
                      | exact ⟨_, _, _, rfl, by assumption⟩
                  obtain rfl : y = .func (.func g') #[] #[] := by
                    cases vy with
                    | fn f a a' c c' ha' hc' hva hvc =>
                      obtain rfl : a' = #[] := Array.size_eq_zero_iff.1 (by omega)
                      obtain rfl : c' = #[] := Array.size_eq_zero_iff.1 (by omega)
                      rfl
                  have hlo : lo ≤ b := by
                    have h5 := hw
                    unfold Heap.wr at h5
                    split at h5
                    · rename_i cs hc5
                      split at h5
                      · exact (put_spec hc5 h5).1
                      · cases h5
                    · cases h5
                  refine (hsort r (s + o) c' l.toArray w (holds_row hI hρ hlo hrd) (hI.dom b r s hρ).2 (by simpa using hsz)).mono fun e w' hq => ?_
                  obtain ⟨rfl, n, os, rfl⟩ := hq
                  obtain ⟨z1, z2⟩ := flatT_vrl (ρ := ρ) (w := w) (l.mergeSort leT)
                  have key := inv_putRow P hI (F := Sort.flatK encT 3 (l.mergeSort leT).toArray) (n := n) os hρ (by rw [flatK_list]; exact hw) (by rw [flatK_list]; exact z1) (by rw [flatK_list]; exact z2)
                  exact ⟨_, ρ, rfl, key.1, key.2, vt⟩
          · cases hp
      · cases hp
    · cases hp
  · cases hp
end Go.Proofs.Ytbjgnogcjglcoaa.Hm
namespace Go.Proofs.Ytbjgnogcjglcoaa.Hm
open Go
set_option linter.all false
theorem leT_iff (x y : FT) : leT x y = true ↔ ¬ ltT y x := by
  unfold leT
  rw [← cfT_dec]
  cases decide (cfT y x < 0) <;> simp
theorem sortT_perm (l : List FT) : (l.mergeSort leT).Perm l := List.mergeSort_perm l leT
theorem sortT_sorted (l : List FT) : (l.mergeSort leT).Pairwise fun x y => ¬ ltT y x := by
  have h := List.pairwise_mergeSort (le := leT) (fun a b c h1 h2 => by
    rw [leT_iff] at *
    revert h1 h2; unfold ltT; omega) (fun a b => by
    rw [Bool.or_eq_true, leT_iff, leT_iff]
    unfold ltT; omega) l
  exact h.imp fun hx => (leT_iff _ _).1 hx
theorem sortT_mem {l : List FT} {x : FT} : x ∈ l.mergeSort leT ↔ x ∈ l := (sortT_perm l).mem_iff
end Go.Proofs.Ytbjgnogcjglcoaa.Hm
namespace Go.Proofs.Ytbjgnogcjglcoaa.Hm
open Go
set_option linter.all false
def cpt {α : Type} [DecidableEq α] [Inhabited α] (l : List α) : Nat → List α
  | 0 => []
  | i + 1 => if 0 < i ∧ l.getD i default = l.getD (i - 1) default then cpt l i else cpt l i ++ [l.getD i default]
theorem cpt_len {α : Type} [DecidableEq α] [Inhabited α] (l : List α) : ∀ i, (cpt l i).length ≤ i
  | 0 => Nat.le_refl _
  | i + 1 => by
    have := cpt_len l i
    rw [cpt]
    split
    · omega
    · rw [List.length_append, List.length_singleton]; omega
theorem cpt_mem {α : Type} [DecidableEq α] [Inhabited α] {l : List α} {x : α} : ∀ {i : Nat}, x ∈ cpt l i ↔ ∃ j, j < i ∧ l.getD j default = x
  | 0 => by simp [cpt]
  | i + 1 => by
    have ih := cpt_mem (l := l) (x := x) (i := i)
    rw [cpt]
    split
    · rename_i h
      rw [ih]
      constructor
      · rintro ⟨j, h1, h2⟩; exact ⟨j, by omega, h2⟩
      · rintro ⟨j, h1, h2⟩
        rcases Nat.lt_or_ge j i with h3 | h3
        · exact ⟨j, h3, h2⟩
        · obtain rfl : j = i := by omega
          exact ⟨j - 1, by omega, by rw [← h.2]; exact h2⟩
    · rw [List.mem_append, ih, List.mem_singleton]
      constructor
      · rintro (⟨j, h1, h2⟩ | rfl)
        · exact ⟨j, by omega, h2⟩
        · exact ⟨i, by omega, rfl⟩
      · rintro ⟨j, h1, h2⟩
        rcases Nat.lt_or_ge j i with h3 | h3
        · exact .inl ⟨j, h3, h2⟩
        · obtain rfl : j = i := by omega
          exact .inr h2.symm
theorem cpt_strict {α : Type} [DecidableEq α] [Inhabited α] {l : List α} {lt : α → α → Prop} (hs : ∀ j k, j < k → k < l.length → ¬ lt (l.getD k default) (l.getD j default)) (ht : ∀ a b, ¬ lt a b → ¬ lt b a → a = b) (hn : ∀ a b c, ¬ lt a b → ¬ lt b c → ¬ lt a c) :
    ∀ i, i ≤ l.length → (cpt l i).Pairwise lt
  | 0, _ => .nil
  | i + 1, hi => by
    have ih := cpt_strict hs ht hn i (by omega)
    rw [cpt]
    split
    · exact ih
    · rename_i h
      refine List.pairwise_append.2 ⟨ih, List.pairwise_singleton _ _, fun x hx y hy => ?_⟩
      rw [List.mem_singleton.1 hy]
      obtain ⟨j, hj, rfl⟩ := cpt_mem.1 hx
      apply Classical.byContradiction
      intro hc
      apply h
      refine ⟨by omega, ?_⟩
      have h1 := hs j i hj (by omega)
      have h2 : ¬ lt (l.getD (i - 1) default) (l.getD i default) := by
        rcases Nat.lt_or_ge j (i - 1) with h3 | h3
        · exact hn _ _ _ (hs j (i - 1) h3 (by omega)) hc
        · obtain rfl : j = i - 1 := by omega
          exact hc
      exact ht _ _ (hs (i - 1) i (by omega) (by omega)) h2
end Go.Proofs.Ytbjgnogcjglcoaa.Hm
namespace Go.Proofs.Ytbjgnogcjglcoaa.Hm
open Go Go.Proofs
set_option linter.all false
def decI : List Value → Option (List Int)
  | [] => some []
  | .int .i64 a :: r => (decI r).map (a :: ·)
  | _ => none
theorem decI_enc : ∀ {cs : List Value} {l : List Int}, decI cs = some l → cs = l.map (Value.int .i64) := by
  intro cs
  induction cs using decI.induct with
  | case1 => intro l h; cases h; rfl
  | case2 a r ih =>
    intro l h
    rw [decI] at h
    obtain ⟨m, hm, rfl⟩ := Option.map_eq_some_iff.1 h
    rw [ih hm]
    rfl
  | case3 t h1 h2 => intro l h; rw [decI] at h <;> first | cases h | assumption
def leI (x y : Int) : Bool := decide (x ≤ y)
def sortPI (lo : Nat) (vs : List Value) (h : Heap) : Option (Value × Heap) :=
  match vs with
  | [.slice a n cap] =>
      if n = 0 then some (.tuple #[], h) else if n < 4611686018427387904 then
      match a with
      | none => none
      | some ⟨b, o, _⟩ => match h.rd b o n with
        | none => none
        | some cs => match decI cs with
          | none => none
          | some l => (h.wr lo b o ((l.mergeSort leI).map (Value.int .i64))).map (.tuple #[], ·)
      else none
  | _ => none
theorem ints_vrl {ρ : Rho} {w : World} (l : List Int) : VRl ρ w (l.map (Value.int .i64)) (l.map (Value.int .i64)) ∧ ∀ v ∈ l.map (Value.int .i64), cell1 v = true := by
  refine ⟨⟨rfl, fun i hi => ?_⟩, fun v hv => ?_⟩
  · have hm : (l.map (Value.int .i64)).getD i undef ∈ l.map (Value.int .i64) := by rw [List.getD_eq_getElem?_getD, List.getElem?_eq_getElem hi]; simp
    obtain ⟨z, _, hz⟩ := List.mem_map.1 hm
    rw [← hz]; exact .int _ _
  · obtain ⟨z, _, rfl⟩ := List.mem_map.1 hv; rfl
theorem putRow_id {α : Type} [Inhabited α] (enc : α → Value) (w : World) (blk off : Nat) (d : Array α) : Sort.putRow enc w blk off d = Sort.putRow id w blk off (d.map enc) := by
  have : Sort.putCells enc off d = Sort.putCells id off (d.map enc) := by
    funext c
    apply Array.ext
    · simp [Sort.putCells]
    · intro i h1 h2
      simp only [Sort.putCells, Array.getElem_mapIdx, Array.size_map, id]
      split
      · rename_i hc
        have : i - off < d.size := by omega
        rw [getElem!_pos d (i - off) this, getElem!_pos (d.map enc) (i - off) (by simpa using this)]
        simp
      · rfl
  unfold Sort.putRow
  rw [this]
theorem holds_ints {lo n0 : Nat} {w0 w : World} {ρ : Rho} {h : Heap} (hI : Inv lo n0 w0 ρ h w) {b r s o : Nat} {l : List Int} (hb : ρ b = some (r, s)) (hlo : lo ≤ b) (hl : h.rd b o l.length = some (l.map (Value.int .i64))) : Sort.Holds (Value.int .i64) w r (s + o) l.toArray := by
  unfold Heap.rd at hl
  split at hl
  · rename_i cs hc
    split at hl
    · rename_i hle
      obtain ⟨c, e, fz, m1, m2, m3, m4⟩ := hI.row b r s cs hb hc
      obtain rfl := m2 hlo
      have hcs : (cs.drop o).take l.length = l.map (Value.int .i64) := by injection hl
      intro j hj
      have hj : j < l.length := by simpa using hj
      have h1 : (l.map (Value.int .i64))[j]? = cs[o + j]? := by rw [← hcs, List.getElem?_take, if_pos hj, List.getElem?_drop]
      have h2 : (l.map (Value.int .i64))[j]? = some (.int .i64 l[j]) := by simp [hj]
      have h3 := (m4 (o + j) (by omega)).1
      rw [List.getD_eq_getElem?_getD, ← h1, h2] at h3
      simp only [Option.getD_some] at h3
      have h4 := VR.int_l h3
      have hsz : s + (o + j) < c.size := by omega
      refine ⟨?_, by simp [World.frozen?, m1]⟩
      rw [cell_at m1, Nat.add_assoc, Array.getElem?_eq_getElem hsz]
      rw [Array.getD_eq_getD_getElem?, Array.getElem?_eq_getElem hsz] at h4
      rw [getElem!_pos l.toArray j (by simpa using hj)]
      simpa using h4
    · cases hl
  · cases hl
theorem sortPI_ok {P : Program} {k : Nat} {hf : HFn} (hc : compFn P k = some hf)
    (hnone : ∀ p cap w, Calls P k #[.slice p 0 cap] w fun e w' => e = .returned (.tuple #[]) ∧ w' = w)
    (hsort : ∀ blk off cap (zs : List Int) (w : World), Sort.Holds (Value.int .i64) w blk off zs.toArray → blk < w.heap.size → zs.length < 4611686018427387904 → Calls P k #[.slice (some ⟨blk, off, none⟩) zs.length cap] w fun e w' => e = .returned (.tuple #[]) ∧ ∃ n os, w' = Sort.grow (Sort.putRow (Value.int .i64) (Sort.ahead w n) blk off (zs.mergeSort leI).toArray) os) : PrimOK P k sortPI := by
  intro lo n0 w0 f vs h v h' hp ρ w args hI hV
  dsimp only at hp
  split at hp
  · rename_i hk
    subst hk
    obtain ⟨fn, c, h1, h2, h3, _⟩ := compFn_inv hc
    refine ⟨callFunc_enter h1 h2 h3 _ w, ?_⟩
    have vt : ∀ {ρ : Rho} {w : World}, VR ρ w (.tuple #[]) (.tuple #[]) := .tup #[] #[] rfl (fun i hi => absurd hi (by simp))
    unfold sortPI at hp
    split at hp
    · rename_i a n cap
      obtain ⟨x, rfl⟩ : ∃ x, args = #[x] := by
        have := hV.1
        match args, this with
        | ⟨[x]⟩, _ => exact ⟨x, rfl⟩
      have vx : VR ρ w (.slice a n cap) x := hV.2 0 (by simp)
      split at hp
      · rename_i hn
        cases hp
        subst hn
        obtain ⟨a', c', rfl⟩ : ∃ a' c', x = .slice a' 0 c' := by cases vx <;> exact ⟨_, _, rfl⟩
        refine (hnone a' c' w).mono fun e w' hq => ?_
        obtain ⟨rfl, rfl⟩ := hq
        exact ⟨_, ρ, rfl, hI, Ext.refl _ _ _, vt⟩
      · rename_i hn
        split at hp
        · rename_i hsz
          split at hp
          · cases hp
          · rename_i b o sp
            split at hp
            · cases hp
            · rename_i cs hrd
              split at hp
              · cases hp
              · rename_i l hl
                obtain ⟨h2', hw, e2⟩ := Option.map_eq_some_iff.1 hp
                cases e2
                obtain rfl := decI_enc hl
                have hlen : n = l.length := by
                  have h5 := hrd
                  unfold Heap.rd at h5
                  split at h5
                  · split at h5
                    · rename_i cs hc5 hle
                      have h6 : (cs.drop o).take n = l.map (Value.int .i64) := by injection h5
                      have := congrArg List.length h6
                      simp at this
                      omega
                    · cases h5
                  · cases h5
                subst hlen
                obtain ⟨r, s, c', rfl, hρ⟩ : ∃ r s c', x = .slice (some ⟨r, s + o, none⟩) l.length c' ∧ ρ b = some (r, s) := by
                  generalize l.length = n at *
                  cases vx <;> first
                    | exact absurd rfl hn
                    | exact ⟨_, _, _, rfl, by assumption⟩
                have hlo : lo ≤ b := by
                  have h5 := hw
                  unfold Heap.wr at h5
                  split at h5
                  · rename_i cs hc5
                    split at h5
                    · exact (put_spec hc5 h5).1
                    · cases h5
                  · cases h5
                refine (hsort r (s + o) c' l w (holds_ints hI hρ hlo hrd) (hI.dom b r s hρ).2 hsz).mono fun e w' hq => ?_
                obtain ⟨rfl, n, os, rfl⟩ := hq
                obtain ⟨z1, z2⟩ := ints_vrl (ρ := ρ) (w := w) (l.mergeSort leI)
                have e9 : ((l.mergeSort leI).toArray.map (Value.int .i64)).toList = (l.mergeSort leI).map (Value.int .i64) := by simp
                have key := inv_putRow P hI (F := (l.mergeSort leI).toArray.map (Value.int .i64)) (n := n) os hρ (by rw [e9]; exact hw) (by rw [e9]; exact z1) (by rw [e9]; exact z2)
                rw [putRow_id]
                exact ⟨_, ρ, rfl, key.1, key.2, vt⟩
        · cases hp
    · cases hp
  · cases hp
end Go.Proofs.Ytbjgnogcjglcoaa.Hm
