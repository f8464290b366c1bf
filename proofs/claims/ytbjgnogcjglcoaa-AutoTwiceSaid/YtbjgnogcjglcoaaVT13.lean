import Derived.Test.YtbjgnogcjglcoaaHF
import Derived.Test.YtbjgnogcjglcoaaA6
import Derived.Test.YtbjgnogcjglcoaaVT8
namespace Go.Proofs.Ytbjgnogcjglcoaa.Hm.V
open Go
set_option linter.all false
set_option maxRecDepth 100000
attribute [local irreducible] X S R D W Call Upd Rds Rck Sees Res Cel CallP fnQ
section
variable {F : Nat → Option HFn} {lo N : Nat} {A : Tab} {Z : Vw} {O : List Pt}
theorem At.self {O g : List Pt} {o : Pt} {f : Pt → List Pt} (h : At O o f g) : f o = O := by
  induction h with
  | here => rfl
  | there k ih => simp only [ih]
theorem W_gen5 {c : HC} {Q : Out → Tab → Vw → List Pt → Prop} {b : Nat} {cs : List Value} {f : Pt → List Pt} {g : List Pt} [t : AtB O b cs f g] (hl : Nat.beq cs.length 5 = true) (k : ∀ x0 x1 x2 x3 x4, W F lo c N A Z (f (.box b [x0, x1, x2, x3, x4])) Q) : W F lo c N A Z O Q := by
  have h5 := Nat.eq_of_beq_eq_true hl
  match cs, h5, t with
  | [x0, x1, x2, x3, x4], _, t =>
    have e := At.self t.out
    exact e ▸ k x0 x1 x2 x3 x4
end
theorem len_le : ∀ (n : Nat) (l : List Nat), l.Nodup → (∀ x ∈ l, x < n) → l.length ≤ n
  | 0, l, _, h => by
    cases l with
    | nil => exact Nat.le_refl _
    | cons x l => exact absurd (h x (by simp)) (by omega)
  | n + 1, l, hd, h => by
    by_cases hm : n ∈ l
    · have h1 := len_le n (l.erase n) (hd.erase n) fun x hx => by
        have h2 := (hd.mem_erase_iff).1 hx
        have := h x h2.2
        omega
      rw [List.length_erase_of_mem hm] at h1
      omega
    · have h1 := len_le n l hd fun x hx => by
        have := h x hx
        have : x ≠ n := fun e => hm (e ▸ hx)
        omega
      omega
theorem all_in {n : Nat} {l : List Nat} (hd : l.Nodup) (h : ∀ x ∈ l, x < n) (hl : l.length = n) {k : Nat} (hk : k < n) : k ∈ l := by
  apply Classical.byContradiction
  intro hc
  have h1 := len_le n (k :: l) (List.nodup_cons.2 ⟨hc, hd⟩) fun x hx => by
    rcases List.mem_cons.1 hx with rfl | hx
    · exact hk
    · exact h x hx
  rw [List.length_cons] at h1
  omega
def distinct (l : List Int) (i : Nat) : Prop := ∀ j k, k < j → j < i → l.getD j default ≠ l.getD k default
theorem perm_in {L : Int} {l : List Int} (hl : lettersP L l) (hn : (l.length : Int) = L) (hd : distinct l l.length) {c : Int} (h0 : 0 ≤ c) (h1 : c < L) : ∃ m, m < l.length ∧ l.getD m default = c := by
  have hnd : (l.map Int.toNat).Nodup := by
    rw [List.nodup_iff_pairwise_ne, List.pairwise_iff_getElem]
    intro i j hi hj hij e
    rw [List.length_map] at hi hj
    have q1 := hl i hi
    have q2 := hl j hj
    have q3 := hd j i hij hj
    rw [getD_eq hi] at q1 q3
    rw [getD_eq hj] at q2 q3
    simp only [List.getElem_map] at e
    apply q3
    omega
  have hlt : ∀ x ∈ l.map Int.toNat, x < L.toNat := fun x hx => by
    obtain ⟨y, hy, rfl⟩ := List.mem_map.1 hx
    obtain ⟨j, hj, rfl⟩ := List.getElem_of_mem hy
    have := hl j hj
    rw [getD_eq hj] at this
    omega
  have := all_in hnd hlt (by rw [List.length_map]; omega) (k := c.toNat) (by omega)
  obtain ⟨y, hy, e⟩ := List.mem_map.1 this
  obtain ⟨j, hj, rfl⟩ := List.getElem_of_mem hy
  have q := hl j hj
  refine ⟨j, hj, ?_⟩
  rw [getD_eq hj] at q ⊢
  omega
theorem turn2_agr {a : Au} (h : isAutoP a) {vs ve vg xs xe xg : Value} : Agr ([⟨a, vs, ve, vg⟩] ++ [⟨doneAu (turnAu (doneAu (turnAu a))), xs, xe, xg⟩]) 0 := agr_mem (fun _ => Iff.rfl) (fun _ => Iff.rfl) fun x => by
  have r1 := turn_raw h
  have h2 : isAutoP (doneAu (turnAu a)) := r1.auto (by simp only [turnAu, List.length_map]; exact h.2.2.2.2.1)
  have r2 := turn_raw h2
  show _ ↔ x ∈ doneE ((doneE (a.ed.map flipE)).map flipE)
  rw [doneE_mem (show fines ((doneE (a.ed.map flipE)).map flipE) from r2.fine), List.mem_map]
  constructor
  · intro hx
    exact ⟨flipE x, (doneE_mem (show fines (a.ed.map flipE) from r1.fine)).2 (List.mem_map.2 ⟨x, hx, rfl⟩), rfl⟩
  · rintro ⟨y, hy, rfl⟩
    obtain ⟨z, hz, rfl⟩ := List.mem_map.1 ((doneE_mem (show fines (a.ed.map flipE) from r1.fine)).1 hy)
    exact hz
theorem turn2_ok {a : Au} (h : isAutoP a) : isAutoP (doneAu (turnAu a)) ∧ isAutoP (doneAu (turnAu (doneAu (turnAu a)))) := by
  have h2 : isAutoP (doneAu (turnAu a)) := (turn_raw h).auto (by simp only [turnAu, List.length_map]; exact h.2.2.2.2.1)
  exact ⟨h2, (turn_raw h2).auto (by simp only [turnAu, List.length_map]; exact h2.2.2.2.2.1)⟩
theorem not2_agr {a : Au} {ord ord2 : List Nat} (h : isAutoP a) (hP : DetP a ord) (hP2 : DetP (notAu a ord) ord2) {vs ve vg xs xe xg : Value} : Agr ([⟨a, vs, ve, vg⟩] ++ [⟨notAu (notAu a ord) ord2, xs, xe, xg⟩]) 0 := fun w hw => by
  have h2 := tab_isAuto (notAu_ok h hP)
  have e1 := not_acc h hP hw
  have e2 := not_acc h2 hP2 (w := w) hw
  show decide (runW a w &&& setOf a.en ≠ 0) = decide (runW (notAu (notAu a ord) ord2) w &&& setOf (notAu (notAu a ord) ord2).en ≠ 0)
  have e3 : decide (runW (notAu (notAu a ord) ord2) w &&& setOf (notAu (notAu a ord) ord2).en ≠ 0) = !decide (runW (notAu a ord) w &&& setOf (notAu a ord).en ≠ 0) := e2
  have e4 : decide (runW (notAu a ord) w &&& setOf (notAu a ord).en ≠ 0) = !decide (runW a w &&& setOf a.en ≠ 0) := e1
  exact (Bool.not_not _).symm.trans ((congrArg Bool.not e4.symm).trans e3.symm)
theorem perm_agr {a : Au} {fr : List Int} (h : isAutoP a) (hf : liftOk a fr) (hn : (fr.length : Int) = a.L) (hd : distinct fr fr.length) (hsm : (liftN a.ed fr fr.length).length ≤ 200000) {vs ve vg xs xe xg : Value} :
    renOk (doneAu (liftAu a fr)) a.L fr ∧ isAutoP (doneAu (renAu (doneAu (liftAu a fr)) a.L fr)) ∧ Agr ([⟨a, vs, ve, vg⟩] ++ [⟨doneAu (renAu (doneAu (liftAu a fr)) a.L fr), xs, xe, xg⟩]) 0 := by
  have r1 := lift_raw h hf
  have h2 : isAutoP (doneAu (liftAu a fr)) := r1.auto (by show ((liftN a.ed fr fr.length).length : Int) ≤ 200000; omega)
  have hr : renOk (doneAu (liftAu a fr)) a.L fr := ⟨h.2.2.1, h.2.2.2.1, rfl, hf.2.2⟩
  have r2 := ren_raw h2 hr
  refine ⟨hr, r2.auto (by simp only [renAu, List.length_map]; exact h2.2.2.2.2.1), agr_mem (fun _ => Iff.rfl) (fun _ => Iff.rfl) fun x => ?_⟩
  show _ ↔ x ∈ doneE ((doneE (liftN a.ed fr fr.length)).map (renE fr))
  rw [doneE_mem (show fines ((doneE (liftN a.ed fr fr.length)).map (renE fr)) from r2.fine), List.mem_map]
  constructor
  · intro hx
    obtain ⟨q1, q2, q3, q4, q5, q6⟩ := edsIn.of h x hx
    obtain ⟨m, hm, e⟩ := perm_in hf.2.2 hn hd q5 q6
    refine ⟨liftE m x, (doneE_mem (show fines (liftN a.ed fr fr.length) from r1.fine)).2 (liftN_mem.2 ⟨m, hm, x, hx, by rw [e], rfl⟩), ?_⟩
    show (⟨x.f, fr.getD (m : Int).toNat default, x.t⟩ : Ed) = x
    rw [Int.toNat_natCast, e]
  · rintro ⟨y, hy, rfl⟩
    obtain ⟨m, hm, z, hz, e, rfl⟩ := liftN_mem.1 ((doneE_mem (show fines (liftN a.ed fr fr.length) from r1.fine)).1 hy)
    obtain ⟨q1, q2, q3, q4, q5, q6⟩ := edsIn.of h z hz
    have q := hf.2.2 m hm
    have : renE fr (liftE m z) = z := by
      show (⟨z.f, fr.getD (m : Int).toNat default, z.t⟩ : Ed) = z
      rw [Int.toNat_natCast, show fr.getD m default = z.l by omega]
    rw [this]; exact hz
theorem back_step {l : List Int} {i : Nat} (h : i < l.length) : (l.take i ++ List.replicate (l.length - i) 0).set i (l.getD i default) = l.take (i + 1) ++ List.replicate (l.length - (i + 1)) 0 := by
  have e1 : l.length - i = (l.length - (i + 1)) + 1 := by omega
  have e2 : (l.take i).length = i := by rw [List.length_take]; omega
  rw [List.set_append_right _ _ (by omega), e2, Nat.sub_self, e1, List.replicate_succ, List.set_cons_zero, take_succ_at h, List.append_assoc]; rfl
end Go.Proofs.Ytbjgnogcjglcoaa.Hm.V
