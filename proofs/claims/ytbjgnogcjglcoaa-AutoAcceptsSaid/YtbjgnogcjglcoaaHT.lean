/- One operation beside H's: those that only look at their operands, and those that read memory. -/
import Derived.Test.YtbjgnogcjglcoaaHQ
namespace Go.Proofs.Ytbjgnogcjglcoaa.Hm
open Go Go.RowKit
set_option linter.all false
set_option linter.unusedSimpArgs false
section
variable {lo n0 : Nat} {w0 : World} {ρ : Rho} {h h' : Heap} {w : World} {P : Program} {σ : List Value} {e : Operand → Value} {dst : Option Tmp} {type : TypeId} {pos : String} {after : Array Edge} {guard : Option (Nat × Bool)} {hop : HOp} {v : Value}
theorem okOps_mem {xs : List Operand} (h : okOps xs = true) {x : Operand} (hx : x ∈ xs) : okOp x = true := List.all_eq_true.1 h x hx
theorem VR.of_int {k : IntKind} {n : Int} {y : Value} (h : VR ρ w (.int k n) y) : y = .int k n := by cases h; rfl
theorem VR.of_bool {b : Bool} {y : Value} (h : VR ρ w (.bool b) y) : y = .bool b := by cases h; rfl
theorem VR.of_str {s : ByteArray} {y : Value} (h : VR ρ w (.string s) y) : y = .string s := by cases h; rfl
theorem str_len (s : ByteArray) : s.data.toList.length = s.size := by rw [Array.length_toList]; rfl
theorem g_mv {x : Operand} (hI : Inv lo n0 w0 ρ h w) (hσ : ∀ x, okOp x = true → VR ρ w (ev σ x) (e x)) (hc : (if okOp x then some (HOp.mv x) else none) = some hop) (hx : xop lo σ h hop = some (v, h')) :
    Good lo n0 w0 P ρ h w (pure (.value (e x))) v h' := by
  split at hc
  · rename_i ho
    cases hc; simp only [xop] at hx; cases hx
    exact ⟨_, w, ρ, .inl rfl, hI, Ext.refl _ _ _, hσ x ho⟩
  · cases hc
theorem g_pick {a b c : Operand} (hI : Inv lo n0 w0 ρ h w) (hσ : ∀ x, okOp x = true → VR ρ w (ev σ x) (e x)) (hc : compOp P type (.pick c a b) = some hop) (hx : xop lo σ h hop = some (v, h')) :
    Good lo n0 w0 P ρ h w (execOp e ⟨dst, .pick c a b, type, pos, after, guard⟩) v h' := by
  simp only [compOp] at hc
  split at hc
  · rename_i ho
    cases hc; simp only [xop] at hx
    have hb := hσ c (okOps_mem ho (by simp))
    split at hx
    · rename_i t ht
      rw [ht] at hb
      cases hx
      refine ⟨if t then e a else e b, w, ρ, .inl ?_, hI, Ext.refl _ _ _, ?_⟩
      · have : e c = .bool t := by
          have := hσ c (okOps_mem ho (by simp)); rw [ht] at this; exact this.of_bool
        simp [execOp, this, asBool]
      · cases t
        · exact hσ b (okOps_mem ho (by simp))
        · exact hσ a (okOps_mem ho (by simp))
    · cases hx
  · cases hc
theorem g_bin {op : BinOp} {xt yt : TypeId} {x y : Operand} (hI : Inv lo n0 w0 ρ h w) (hσ : ∀ x, okOp x = true → VR ρ w (ev σ x) (e x)) (hc : compOp P type (.binOp op xt x y yt) = some hop) (hx : xop lo σ h hop = some (v, h')) :
    Good lo n0 w0 P ρ h w (execOp e ⟨dst, .binOp op xt x y yt, type, pos, after, guard⟩) v h' := by
  simp only [compOp] at hc
  split at hc
  · rename_i ho
    have vx := hσ x (okOps_mem ho (by simp))
    have vy := hσ y (okOps_mem ho (by simp))
    have hbin : hop = .bin op x y → Good lo n0 w0 P ρ h w (execOp e ⟨dst, .binOp op xt x y yt, type, pos, after, guard⟩) v h' := by
      rintro rfl
      simp only [xop] at hx
      obtain ⟨r, hr, e2⟩ := Option.map_eq_some_iff.1 hx
      cases e2
      obtain ⟨k1, k2⟩ := good_bin (P := P) vx vy hr xt x y
      exact good_p hI k1 k2
    have heq : ∀ neg : Bool, op = (if neg then .neq else .eql) → (∀ q, P.underlying xt ≠ some (.int q)) → P.underlying xt ≠ some .string → (eqT P xt).map (HOp.eq neg · x y) = some hop → Good lo n0 w0 P ρ h w (execOp e ⟨dst, .binOp op xt x y yt, type, pos, after, guard⟩) v h' := by
      rintro neg rfl h1 h2 h3
      obtain ⟨D, hD, rfl⟩ := Option.map_eq_some_iff.1 h3
      simp only [xop] at hx
      obtain ⟨r, hr, e2⟩ := Option.map_eq_some_iff.1 hx
      cases e2
      have hprim : ∀ k, D = .prim k → P.underlying xt = some .bool := by
        rintro k rfl
        unfold eqT at hD
        cases hu : P.underlying xt with
        | none => simp [hu] at hD
        | some d =>
          cases d <;> simp only [hu] at hD <;> first
            | rfl
            | (cases hD; done)
            | exact absurd hu (h1 _)
            | exact absurd hu h2
            | (split at hD <;> (try (cases hD; done)) <;> split at hD <;> cases hD)
      exact good_p hI (good_eq hD hprim vx vy hr) (.bool _)
    split at hc
    · split at hc
      · exact hbin (by cases hc; rfl)
      · exact hbin (by cases hc; rfl)
      · rename_i h1 h2; exact heq false rfl (fun q => h1 q) h2 hc
    · split at hc
      · exact hbin (by cases hc; rfl)
      · exact hbin (by cases hc; rfl)
      · rename_i h1 h2; exact heq true rfl (fun q => h1 q) h2 hc
    · exact hbin (by cases hc; rfl)
  · cases hc
theorem g_un {op : UnOp} {xt : TypeId} {x : Operand} (hI : Inv lo n0 w0 ρ h w) (hσ : ∀ x, okOp x = true → VR ρ w (ev σ x) (e x)) (hc : compOp P type (.unOp op xt x) = some hop) (hx : xop lo σ h hop = some (v, h')) :
    Good lo n0 w0 P ρ h w (execOp e ⟨dst, .unOp op xt x, type, pos, after, guard⟩) v h' := by
  simp only [compOp] at hc
  split at hc
  · rename_i ho
    cases hc; simp only [xop] at hx
    obtain ⟨r, hr, e2⟩ := Option.map_eq_some_iff.1 hx
    cases e2
    obtain ⟨k1, k2⟩ := good_un (P := P) (hσ x ho) hr
    exact good_p hI k1 k2
  · cases hc
theorem g_conv {s d : TypeId} {x : Operand} (hI : Inv lo n0 w0 ρ h w) (hσ : ∀ x, okOp x = true → VR ρ w (ev σ x) (e x)) (hc : compOp P type (.convert s d x) = some hop) (hx : xop lo σ h hop = some (v, h')) :
    Good lo n0 w0 P ρ h w (execOp e ⟨dst, .convert s d x, type, pos, after, guard⟩) v h' := by
  simp only [compOp] at hc
  split at hc
  · rename_i ho
    split at hc
    · rename_i k k2 h1 h2
      cases hc; simp only [xop] at hx
      have vx := hσ x ho
      split at hx
      · rename_i q n hq
        cases hx
        rw [hq] at vx
        have hex : e x = .int q n := vx.of_int
        refine good_p hI (s := convert s d (e x)) ?_ (.int _ _)
        rw [hex]
        simp [convert, run_under h1, run_under h2, Conv.intToInt]
      · cases hx
    · cases hc
  · cases hc
theorem g_nilchk {x : Operand} (hI : Inv lo n0 w0 ρ h w) (hσ : ∀ x, okOp x = true → VR ρ w (ev σ x) (e x)) (hc : compOp P type (.nilCheck x) = some hop) (hx : xop lo σ h hop = some (v, h')) :
    Good lo n0 w0 P ρ h w (execOp e ⟨dst, .nilCheck x, type, pos, after, guard⟩) v h' := by
  simp only [compOp] at hc
  split at hc
  · rename_i ho
    cases hc; simp only [xop] at hx
    have vx := hσ x ho
    split at hx
    · rename_i a ha
      cases hx
      rw [ha] at vx
      obtain ⟨a', ha'⟩ : ∃ a', e x = .pointer (some a') := by
        generalize e x = y at vx; cases vx; exact ⟨_, rfl⟩
      refine ⟨e x, w, ρ, .inl ?_, hI, Ext.refl _ _ _, by rw [ha'] at vx ⊢; exact vx⟩
      simp [execOp, ha']
    · cases hx
  · cases hc
theorem ptr_inv {b o : Nat} {y : Value} (h : VR ρ w (.pointer (some ⟨b, o, none⟩)) y) : ∃ r s, y = .pointer (some ⟨r, s + o, none⟩) ∧ ρ b = some (r, s) := by
  cases h; exact ⟨_, _, rfl, by assumption⟩
theorem g_faddr {s : TypeId} {x : Operand} {f : Nat} (hI : Inv lo n0 w0 ρ h w) (hσ : ∀ x, okOp x = true → VR ρ w (ev σ x) (e x)) (hc : compOp P type (.fieldAddr s x f) = some hop) (hx : xop lo σ h hop = some (v, h')) :
    Good lo n0 w0 P ρ h w (execOp e ⟨dst, .fieldAddr s x f, type, pos, after, guard⟩) v h' := by
  simp only [compOp] at hc
  split at hc
  · rename_i ho
    split at hc
    · rename_i fs hfs
      split at hc
      · rename_i fd hfd
        split at hc
        · rename_i n hn
          split at hc
          · cases hc
          · rename_i hn0
            cases hc; simp only [xop] at hx
            have vx := hσ x ho
            split at hx
            · rename_i b o hb
              cases hx
              rw [hb] at vx
              obtain ⟨r, s0, hr, hρ⟩ := ptr_inv vx
              refine good_p hI (s := Instr.fieldAt s (e x) f) (v' := .pointer (some ⟨r, s0 + (o + fd.offset), none⟩)) ?_ (.ptr _ _ _ _ hρ)
              rw [hr]
              simp [Instr.fieldAt, run_under hfs, hfd, Instr.sureAddr, fieldPlace, run_size hn, hn0, add_off, Nat.add_assoc]
            · cases hx
        · cases hc
      · cases hc
    · cases hc
  · cases hc
theorem run_part {t : TypeId} {s : Nat} {g : Option Nat} {cs : Array Value} {off : Nat} (hs : sizeT P t = some s) (hg : aggT P t = some g) {xs : List Value} {u : Value} (hv : VRl ρ w xs cs.toList) (h1 : ∀ x ∈ xs, cell1 x = true)
    (hu : partOf xs off g = some u) : ∃ u', (part t cs off).run P w = .ok u' w ∧ VR ρ w u u' := by
  cases g with
  | some n =>
    have hn := agg_size hg
    rw [hs] at hn; cases hn
    simp only [partOf] at hu
    split at hu
    · cases hu
      refine ⟨.agg (cs.extract off (off + s)), by simp [part, run_agg hg, run_size hs], VR.aggL ?_ fun x hx => h1 x (List.mem_of_mem_drop (List.mem_of_mem_take hx))⟩
      have := (hv.drop off).take s
      simpa [Array.toList_extract, List.extract_eq_take_drop] using this
    · cases hu
  | none =>
    simp only [partOf] at hu
    obtain ⟨u', hu', vu⟩ := hv.get hu
    have h2 : cs[off]? = some u' := by rw [← hu']; simp
    exact ⟨u', by simp [part, run_agg hg, h2], vu⟩
theorem g_field {s : TypeId} {x : Operand} {f : Nat} (hI : Inv lo n0 w0 ρ h w) (hσ : ∀ x, okOp x = true → VR ρ w (ev σ x) (e x)) (hc : compOp P type (.field s x f) = some hop) (hx : xop lo σ h hop = some (v, h')) :
    Good lo n0 w0 P ρ h w (execOp e ⟨dst, .field s x f, type, pos, after, guard⟩) v h' := by
  simp only [compOp] at hc
  split at hc
  · rename_i ho
    split at hc
    · rename_i fs hfs
      split at hc
      · rename_i fd hfd
        split at hc
        · rename_i n g hn hg
          cases hc; simp only [xop] at hx
          have vx := hσ x ho
          split at hx
          · rename_i cs hcs
            rw [hcs] at vx
            obtain ⟨a', ha', hv, h1⟩ := vx.of_agg
            obtain ⟨u, hu, e2⟩ := Option.map_eq_some_iff.1 hx
            cases e2
            obtain ⟨u', k1, k2⟩ := run_part (P := P) hn hg hv h1 hu
            refine good_p hI (s := Instr.field s (e x) f) ?_ k2
            rw [ha']
            simp [Instr.field, run_under hfs, hfd, asAgg, k1]
          · cases hx
        · cases hc
      · cases hc
    · cases hc
  · cases hc
theorem g_iaddr {t : TypeId} {x i : Operand} (hI : Inv lo n0 w0 ρ h w) (hσ : ∀ x, okOp x = true → VR ρ w (ev σ x) (e x)) (hc : compOp P type (.indexAddr t x i) = some hop) (hx : xop lo σ h hop = some (v, h')) :
    Good lo n0 w0 P ρ h w (execOp e ⟨dst, .indexAddr t x i, type, pos, after, guard⟩) v h' := by
  simp only [compOp] at hc
  split at hc
  · rename_i ho
    have vx := hσ x (okOps_mem ho (by simp))
    have vi := hσ i (okOps_mem ho (by simp))
    split at hc
    · rename_i el hel
      obtain ⟨s, hs, rfl⟩ := Option.map_eq_some_iff.1 hc
      simp only [xop] at hx
      split at hx
      · rename_i b o z len cap k j hb hj
        rw [hb] at vx; rw [hj] at vi
        have hei : e i = .int k j := vi.of_int
        split at hx
        · rename_i hjl
          cases hx
          obtain ⟨r, s0, cap', hr, hρ⟩ : ∃ r s0 cap', e x = .slice (some ⟨r, s0 + o, none⟩) len cap' ∧ ρ b = some (r, s0) := by
            generalize e x = y at vx
            cases vx with
            | sle _ r s0 _ _ _ hρ => exact ⟨_, _, _, rfl, hρ⟩
            | sli _ r s0 _ _ _ _ _ hρ => exact ⟨_, _, _, rfl, hρ⟩
            | slz => omega
            | sez => omega
          refine good_p hI (s := Instr.indexAt t (e x) (e i)) (v' := .pointer (some ⟨r, s0 + (o + j.toNat * s), none⟩)) ?_ (.ptr _ _ _ _ hρ)
          rw [hr, hei]
          simp [Instr.indexAt, asIntOf, run_under hel, hjl, run_size hs, add_off, Nat.add_assoc]
        · cases hx
      · cases hx
    · rename_i n el hel
      obtain ⟨s, hs, rfl⟩ := Option.map_eq_some_iff.1 hc
      simp only [xop] at hx
      split at hx
      · rename_i b o k j hb hj
        rw [hb] at vx; rw [hj] at vi
        have hei : e i = .int k j := vi.of_int
        split at hx
        · rename_i hjl
          cases hx
          obtain ⟨r, s0, hr, hρ⟩ := ptr_inv vx
          refine good_p hI (s := Instr.indexAt t (e x) (e i)) (v' := .pointer (some ⟨r, s0 + (o + j.toNat * s), none⟩)) ?_ (.ptr _ _ _ _ hρ)
          rw [hr, hei]
          simp [Instr.indexAt, asIntOf, run_under hel, Instr.sureAddr, hjl, run_size hs, add_off, Nat.add_assoc]
        · cases hx
      · cases hx
    · cases hc
  · cases hc
theorem g_index {t : TypeId} {x i : Operand} (hI : Inv lo n0 w0 ρ h w) (hσ : ∀ x, okOp x = true → VR ρ w (ev σ x) (e x)) (hc : compOp P type (.index t x i) = some hop) (hx : xop lo σ h hop = some (v, h')) :
    Good lo n0 w0 P ρ h w (execOp e ⟨dst, .index t x i, type, pos, after, guard⟩) v h' := by
  simp only [compOp] at hc
  split at hc
  · rename_i ho
    have vx := hσ x (okOps_mem ho (by simp))
    have vi := hσ i (okOps_mem ho (by simp))
    split at hc
    · rename_i n el hel
      split at hc
      · rename_i s g hs hg
        cases hc; simp only [xop] at hx
        split at hx
        · rename_i cs k j hcs hj
          rw [hcs] at vx; rw [hj] at vi
          have hei : e i = .int k j := vi.of_int
          obtain ⟨a', ha', hv, h1⟩ := vx.of_agg
          split at hx
          · rename_i hjl
            obtain ⟨u, hu, e2⟩ := Option.map_eq_some_iff.1 hx
            cases e2
            obtain ⟨u', k1, k2⟩ := run_part (P := P) hs hg hv h1 hu
            refine good_p hI (s := Instr.index t (e x) (e i)) ?_ k2
            rw [ha', hei]
            simp [Instr.index, asIntOf, run_under hel, hjl, run_size hs, k1]
          · cases hx
        · cases hx
      · cases hc
    · rename_i hel
      cases hc; simp only [xop] at hx
      split at hx
      · rename_i str k j hs hj
        rw [hs] at vx; rw [hj] at vi
        have hei : e i = .int k j := vi.of_int
        have hex : e x = .string str := vx.of_str
        split at hx
        · rename_i hj0
          obtain ⟨c, hc, e2⟩ := Option.map_eq_some_iff.1 hx
          cases e2
          have hlt : j.toNat < str.size := by
            rcases Nat.lt_or_ge j.toNat str.data.toList.length with h | h
            · rwa [str_len] at h
            · rw [List.getElem?_eq_none h] at hc; cases hc
          have hg : str[j.toNat]? = some c := by
            rw [ByteArray.getElem?_lt' _ _ hlt]
            rw [← hc]
            have : str.data.toList[j.toNat]? = some str.data.toList[j.toNat] := List.getElem?_eq_getElem (by rw [str_len]; exact hlt)
            rw [this]; rfl
          refine good_p hI (s := Instr.index t (e x) (e i)) ?_ (.int _ _)
          rw [hex, hei]
          simp [Instr.index, asIntOf, run_under hel, hj0, hg]
        · cases hx
      · cases hx
    · cases hc
  · cases hc
theorem g_extract {x : Operand} {i : Nat} (hI : Inv lo n0 w0 ρ h w) (hσ : ∀ x, okOp x = true → VR ρ w (ev σ x) (e x)) (hc : compOp P type (.extract x i) = some hop) (hx : xop lo σ h hop = some (v, h')) :
    Good lo n0 w0 P ρ h w (execOp e ⟨dst, .extract x i, type, pos, after, guard⟩) v h' := by
  simp only [compOp] at hc
  split at hc
  · rename_i ho
    cases hc; simp only [xop] at hx
    have vx := hσ x ho
    split at hx
    · rename_i vs hvs
      obtain ⟨r, hr, e2⟩ := Option.map_eq_some_iff.1 hx
      cases e2
      rw [hvs] at vx
      obtain ⟨a', ha', hv⟩ := vx.of_tuple
      obtain ⟨u', hu', vu⟩ := hv.get hr
      have h2 : a'[i]? = some u' := by rw [← hu']; simp
      refine good_p hI (s := Instr.extract (e x) i) ?_ vu
      rw [ha']
      simp [Instr.extract, h2]
    · cases hx
  · cases hc
theorem VRl.map {f g : Operand → Value} {xs : List Operand} (hv : ∀ x ∈ xs, VR ρ w (f x) (g x)) : VRl ρ w (xs.map f) (xs.map g) := by
  induction xs with
  | nil => exact .nil ρ w
  | cons x xs ih => exact .cons (hv x (by simp)) (ih fun y hy => hv y (by simp [hy]))
theorem g_mkfunc {fn : Fn} {a c : Array Operand} (hI : Inv lo n0 w0 ρ h w) (hσ : ∀ x, okOp x = true → VR ρ w (ev σ x) (e x)) (hc : compOp P type (.makeFunc fn a c) = some hop) (hx : xop lo σ h hop = some (v, h')) :
    Good lo n0 w0 P ρ h w (execOp e ⟨dst, .makeFunc fn a c, type, pos, after, guard⟩) v h' := by
  cases fn <;> simp only [compOp] at hc <;> (try (cases hc; done))
  rename_i f
  split at hc
  · rename_i ho
    cases hc; simp only [xop] at hx; cases hx
    refine good_p hI (s := Instr.makeFunc (.func f) (a.map e) (c.map e)) (v' := .func (.func f) (a.map e) (c.map e)) rfl ?_
    have ha : VRl ρ w (a.toList.map (ev σ)) (a.toList.map e) := VRl.map fun x hx => hσ x (okOps_mem ho (by simp [hx]))
    have hcc : VRl ρ w (c.toList.map (ev σ)) (c.toList.map e) := VRl.map fun x hx => hσ x (okOps_mem ho (by simp [hx]))
    refine .fn _ _ _ _ _ (by simp) (by simp) (fun i hi => ?_) (fun i hi => ?_)
    · rw [getD_toList, getD_toList, Array.toList_map]; exact ha.getD i
    · rw [getD_toList, getD_toList, Array.toList_map]; exact hcc.getD i
  · cases hc
theorem OR_map {x : Option Operand} (hσ : ∀ x, okOp x = true → VR ρ w (ev σ x) (e x)) (hx : ∀ y ∈ x.toList, okOp y = true) : OR ρ w (x.map (ev σ)) (x.map e) := by
  cases x with
  | none => trivial
  | some y => exact hσ y (hx y (by simp))
theorem g_slice {t : TypeId} {x : Operand} {l hi mx : Option Operand} (hI : Inv lo n0 w0 ρ h w) (hσ : ∀ x, okOp x = true → VR ρ w (ev σ x) (e x)) (hc : compOp P type (.slice t x l hi mx) = some hop) (hx : xop lo σ h hop = some (v, h')) :
    Good lo n0 w0 P ρ h w (execOp e ⟨dst, .slice t x l hi mx, type, pos, after, guard⟩) v h' := by
  simp only [compOp] at hc
  split at hc
  · rename_i ho
    simp only [Bool.and_eq_true, Bool.or_eq_true] at ho
    obtain ⟨ho, hmx⟩ := ho
    have vx := hσ x (okOps_mem ho (by simp))
    have vl := OR_map (x := l) hσ fun y hy => okOps_mem ho (by simp at hy; simp [hy])
    have vh := OR_map (x := hi) hσ fun y hy => okOps_mem ho (by simp at hy; simp [hy])
    have vm := OR_map (x := mx) hσ fun y hy => okOps_mem ho (by simp at hy; simp [hy])
    have hm : mx.map (ev σ) = none ∨ hi.map (ev σ) ≠ none := by
      rcases hmx with h1 | h1
      · left; cases mx <;> simp_all
      · right; cases hi <;> simp_all
    split at hc
    · rename_i el hel
      obtain ⟨s, hs, rfl⟩ := Option.map_eq_some_iff.1 hc
      simp only [xop] at hx
      obtain ⟨u, hu, e2⟩ := Option.map_eq_some_iff.1 hx
      cases e2
      have hsh : ∃ a len cap, ev σ x = .slice a len cap := by
        unfold sliceOf at hu; split at hu
        · exact ⟨_, _, _, by assumption⟩
        · cases hu
      obtain ⟨a, len, cap, hxs⟩ := hsh
      rw [hxs] at vx hu
      cases a with
      | none =>
        have hey : e x = .slice none 0 0 ∧ len = 0 ∧ cap = 0 := by generalize e x = y at vx; cases vx; exact ⟨rfl, rfl, rfl⟩
        obtain ⟨hey, rfl, rfl⟩ := hey
        unfold sliceOf at hu
        simp only at hu
        split at hu
        · cases hu
        · rename_i m hm1
          split at hu
          · rename_i hmc
            split at hu
            · rename_i hh l' hh1 hl1
              split at hu
              · rename_i hle
                cases hu
                have : m = 0 ∧ hh = 0 ∧ l' = 0 := by omega
                obtain ⟨rfl, rfl, rfl⟩ := this
                have k1 := seen_run (ρ := ρ) (w := w) (x := mx.map (ev σ)) (x' := mx.map e) (by cases mx <;> exact vm) hm1
                have k2 := seen_run (ρ := ρ) (w := w) (x := hi.map (ev σ)) (x' := hi.map e) (by cases hi <;> exact vh) hh1
                have k3 := seen_run (ρ := ρ) (w := w) (x := l.map (ev σ)) (x' := l.map e) (by cases l <;> exact vl) hl1
                have hb := run_bounds (P := P) (w := w) (isS := true) (cap' := 0) k3 k2 k1 hm hmc hle.1 hle.2 (Nat.le_refl _)
                refine good_p hI (s := Instr.sliceAt t (e x) (l.map e) (hi.map e) (mx.map e)) (v' := .slice none 0 0) ?_ .nils
                rw [hey]
                simp [Instr.sliceAt, Instr.slice, run_under hel, hb, run_size hs]
              · cases hu
            · cases hu
          · cases hu
      | some a =>
        obtain ⟨b, o, z⟩ := a
        obtain ⟨a', len', cap', hey⟩ : ∃ a' len' cap', e x = .slice (some a') len' cap' := by generalize e x = y at vx; cases vx <;> exact ⟨_, _, _, rfl⟩
        rw [hey] at vx
        obtain ⟨l1, hh, m, k1, k2⟩ := slice_core (P := P) vx vl vh vm hm hu true
        refine good_p hI (s := Instr.sliceAt t (e x) (l.map e) (hi.map e) (mx.map e)) ?_ k2
        rw [hey]
        by_cases hml : m = l1
        · simp [Instr.sliceAt, Instr.slice, run_under hel, k1, run_size hs, hml]
        · simp [Instr.sliceAt, Instr.slice, run_under hel, k1, run_size hs, hml, add_off]
    · rename_i n el hel
      obtain ⟨s, hs, rfl⟩ := Option.map_eq_some_iff.1 hc
      simp only [xop] at hx
      split at hx
      · rename_i b o hb
        obtain ⟨u, hu, e2⟩ := Option.map_eq_some_iff.1 hx
        cases e2
        rw [hb] at vx
        obtain ⟨r, s0, hr, hρ⟩ := ptr_inv vx
        obtain ⟨l1, hh, m, k1, k2⟩ := slice_core (P := P) (.sle b r s0 o n n hρ) vl vh vm hm hu false
        refine good_p hI (s := Instr.sliceAt t (e x) (l.map e) (hi.map e) (mx.map e)) ?_ k2
        rw [hr]
        by_cases hml : m = l1
        · simp [Instr.sliceAt, run_under hel, Instr.sureAddr, k1, run_size hs, hml]
        · simp [Instr.sliceAt, run_under hel, Instr.sureAddr, k1, run_size hs, hml, add_off]
      · cases hx
    · rename_i hel
      split at hc
      · rename_i hmn
        cases hc; simp only [xop] at hx
        split at hx
        · rename_i str hs
          rw [hs] at vx
          have hey : e x = .string str := vx.of_str
          split at hx
          · rename_i b a hb ha
            split at hx
            · rename_i hle
              cases hx
              have hmxn : mx = none := by cases mx <;> simp_all
              subst hmxn
              have k2 := seen_run (ρ := ρ) (w := w) (x := hi.map (ev σ)) (x' := hi.map e) (by cases hi <;> exact vh) hb
              have k3 := seen_run (ρ := ρ) (w := w) (x := l.map (ev σ)) (x' := l.map e) (by cases l <;> exact vl) ha
              have hbd := run_bounds (P := P) (w := w) (isS := false) (cap := str.size) (cap' := str.size) (mx' := none) (mx2 := none) k3 k2 (.inl ⟨rfl, rfl, rfl⟩) (.inl rfl) (Nat.le_refl _) hle.1 hle.2 (Nat.le_refl _)
              refine good_p hI (s := Instr.sliceAt t (e x) (l.map e) (hi.map e) none) (v' := .string (str.extract a b)) ?_ ?_
              · rw [hey]
                simp only [Option.isSome_none, Bool.false_eq_true, if_false] at hbd
                simp [Instr.sliceAt, Instr.slice, run_under hel, hbd]
              · have := ByteArray.extract_mk str.data.toList a b
                simp only [Array.toArray_toList] at this
                rw [this]; exact .str _
            · cases hx
          · cases hx
        · cases hx
      · cases hc
    · cases hc
  · cases hc
end
end Go.Proofs.Ytbjgnogcjglcoaa.Hm
