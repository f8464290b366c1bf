import Derived.Test.YtlidnionbofkaaaHF
import Derived.Test.YtlidnionbofkaaaA6
import Derived.Test.YtlidnionbofkaaaVQ7
namespace Go.Proofs.Ytlidnionbofkaaa.Hm.V
open Go
set_option linter.all false
set_option maxRecDepth 100000
attribute [local irreducible] X XG S R D W Call CallG Upd Rds Rck Sees Res Cel CallP fnQ fnG
inductive Adv : List Tok → List Tok → Prop
  | refl {L : List Tok} : Adv L L
  | step {L L1 L2 : List Tok} (h : advT L = some L1) (k : Adv L1 L2) : Adv L L2
theorem Adv.trans {L L1 L2 : List Tok} (h : Adv L L1) (k : Adv L1 L2) : Adv L L2 := by
  induction h with
  | refl => exact k
  | step h _ ih => exact .step h (ih k)
theorem Adv.one {L L1 : List Tok} (h : advT L = some L1) : Adv L L1 := .step h .refl
theorem Adv.take {m : Tok} {L L1 : List Tok} (h : takeT m L = some L1) : Adv L L1 := by
  unfold takeT at h
  split at h
  · cases h
  · split at h
    · exact .one h
    · cases h
theorem Adv.num {nv : Tok → Int} {L L1 : List Tok} {n : Int} (h : numT nv L = some (n, L1)) : Adv L L1 := by
  unfold numT at h
  split at h
  · cases h
  · split at h
    · split at h
      · cases h
      · rename_i e; cases h; exact .one e
    · cases h
def PAdv (rec : Prs) : Prop := ∀ L e L', rec L = some (e, L') → Adv L L'
theorem argR_adv {rec : Prs} (hr : PAdv rec) {n c : Int} {L : List Tok} {e : Ex} {L' : List Tok} (h : argR rec n c L = some (e, L')) : Adv L L' := by
  unfold argR at h
  split at h
  · cases h; exact .refl
  · split at h
    · split at h
      · cases h
      · rename_i L4 e4
        split at h
        · cases h
        · rename_i a L5 e5
          split at h
          · cases h
          · rename_i L6 e6
            cases h
            exact (Adv.one e4).trans ((hr _ _ _ e5).trans (.take e6))
    · cases h; exact .refl
theorem readR_adv {nv : Tok → Int} {cp : Bool} {vs : List Vr} {rec : Prs} (hr : PAdv rec) {L : List Tok} {e : Ex} {L' : List Tok} (h : readR nv cp vs rec L = some (e, L')) : Adv L L' := by
  unfold readR at h
  split at h
  · cases h
  · split at h
    · cases h
    · rename_i L1 e1
      split at h
      · split at h
        · cases h
        · rename_i L2 e2
          split at h
          · cases h
          · rename_i c L3 e3
            exact (Adv.one e1).trans ((Adv.take e2).trans ((Adv.num e3).trans (argR_adv hr h)))
      · split at h
        · cases h
        · exact (Adv.one e1).trans (argR_adv hr h)
theorem groupR_adv {rec : Prs} (hr : PAdv rec) {L : List Tok} {e : Ex} {L' : List Tok} (h : groupR rec L = some (e, L')) : Adv L L' := by
  unfold groupR at h
  split at h
  · cases h
  · rename_i a L2 e2
    split at h
    · cases h
    · split at h
      · split at h
        · cases h
        · rename_i L3 e3
          split at h
          · cases h
          · rename_i b L4 e4
            split at h
            · cases h
            · rename_i L5 e5
              split at h
              · cases h
              · rename_i c L6 e6
                split at h
                · cases h
                · rename_i L7 e7
                  cases h
                  exact (hr _ _ _ e2).trans ((Adv.one e3).trans ((hr _ _ _ e4).trans ((Adv.take e5).trans ((hr _ _ _ e6).trans (.take e7)))))
      · split at h
        · cases h
        · split at h
          · cases h
          · rename_i L3 e3
            split at h
            · cases h
            · rename_i b L4 e4
              split at h
              · cases h
              · rename_i L5 e5
                cases h
                exact (hr _ _ _ e2).trans ((Adv.one e3).trans ((hr _ _ _ e4).trans (.take e5)))
theorem exprF_adv (nv : Tok → Int) (cp : Bool) (vs : List Vr) : ∀ m, PAdv (exprF nv cp vs m)
  | 0 => fun L e L' h => by cases h
  | m + 1 => by
    have hr := exprF_adv nv cp vs m
    intro L e L' h
    rw [exprF] at h
    unfold exprR at h
    split at h
    · cases h
    · split at h
      · split at h
        · cases h
        · rename_i L1 e1
          split at h
          · cases h
          · rename_i a L2 e2
            cases h
            exact (Adv.one e1).trans (hr _ _ _ e2)
      · split at h
        · split at h
          · cases h
          · rename_i L1 e1
            exact (Adv.one e1).trans (groupR_adv hr h)
        · split at h
          · exact readR_adv hr h
          · split at h
            · cases h
            · rename_i n L1 e1
              cases h
              exact .num e1
theorem Adv.bad {L L' : List Tok} (h : Adv L L') (h0 : L.head? ≠ some []) (hm : [] ∈ L) : [] ∈ L' := by
  induction h with
  | refl => exact hm
  | @step A B C h _ ih =>
    cases A with
    | nil => cases hm
    | cons t r =>
      rw [advT_cons] at h
      split at h
      · cases h
      · rename_i hn
        cases h
        refine ih hn ?_
        rcases List.mem_cons.1 hm with q | q
        · exact absurd (by rw [← q]; rfl) h0
        · exact q
theorem parX_mem {nv : Tok → Int} {cp : Bool} {vs : List Vr} {s : List UInt8} (h : [] ∈ lexL s) : parX nv cp vs s = none := by
  unfold parX
  split
  · rfl
  · rename_i h0
    split
    · rename_i e he
      have := (exprF_adv nv cp vs _ _ _ _ he).bad h0 h
      cases this
    · rfl
mutual
def Ex.mapN (f : Int → Int) : Ex → Ex
  | .mk op n c ks => .mk op (if op = 0 then f n else n) (f c) (Ex.mapNL f ks)
def Ex.mapNL (f : Int → Int) : List Ex → List Ex
  | [] => []
  | a :: ks => a.mapN f :: Ex.mapNL f ks
end
theorem Ex.mapNL_eq {f : Int → Int} : ∀ {ks : List Ex}, Ex.mapNL f ks = ks.map (Ex.mapN f)
  | [] => rfl
  | a :: ks => by rw [Ex.mapNL, Ex.mapNL_eq]; rfl
theorem Ex.mapN_mk {f : Int → Int} {op n c : Int} {ks : List Ex} : (Ex.mk op n c ks).mapN f = .mk op (if op = 0 then f n else n) (f c) (ks.map (Ex.mapN f)) := by rw [Ex.mapN, Ex.mapNL_eq]
def mapR (f : Int → Int) (r : Option (Ex × List Tok)) : Option (Ex × List Tok) := r.map fun p => (p.1.mapN f, p.2)
section
variable {f : Int → Int} {nv nv' : Tok → Int}
def NumP (f : Int → Int) (nv nv' : Tok → Int) (L : List Tok) : Prop := ∀ t ∈ L, isNum t = true → nv' t = f (nv t)
theorem NumP.adv {L L' : List Tok} (h : Adv L L') (k : NumP f nv nv' L) : NumP f nv nv' L' := by
  induction h with
  | refl => exact k
  | @step A B C h _ ih =>
    refine ih ?_
    cases A with
    | nil => cases h
    | cons t r =>
      rw [advT_cons] at h
      split at h
      · cases h
      · cases h
        exact fun u hu => k u (List.mem_cons_of_mem _ hu)
theorem numT_map {L : List Tok} (k : NumP f nv nv' L) : numT nv' L = (numT nv L).map fun p => (f p.1, p.2) := by
  cases L with
  | nil => rfl
  | cons t r =>
    by_cases hn : isNum t = true
    · simp only [numT, if_pos hn]
      cases advT (t :: r) with
      | none => rfl
      | some L1 => simp only [Option.map_some]; rw [k t (by simp) hn]
    · simp only [numT, if_neg hn]; rfl
def NatR (f : Int → Int) (nv nv' : Tok → Int) (rec rec' : Prs) : Prop := ∀ L, NumP f nv nv' L → rec' L = mapR f (rec L)
theorem argR_map (f0 : f 0 = 0) {rec rec' : Prs} (hr : NatR f nv nv' rec rec') {n c : Int} {L : List Tok} (k : NumP f nv nv' L) : argR rec' n (f c) L = mapR f (argR rec n c L) := by
  cases L with
  | nil => simp only [argR, mapR, Option.map_some, Ex.mapN_mk, List.map_nil]; rfl
  | cons u r =>
    by_cases hu : u = [91]
    · rw [argR, if_pos hu, argR, if_pos hu]
      cases e4 : advT (u :: r) with
      | none => rfl
      | some L4 =>
        simp only
        rw [hr L4 (k.adv (.one e4))]
        cases rec L4 with
        | none => rfl
        | some p =>
          obtain ⟨a, L5⟩ := p
          simp only [mapR, Option.map_some]
          cases takeT [93] L5 with
          | none => rfl
          | some L6 => simp only [Option.map_some, Ex.mapN_mk, List.map_cons, List.map_nil]; rfl
    · rw [argR, if_neg hu, argR, if_neg hu]
      simp only [mapR, Option.map_some, Ex.mapN_mk, List.map_nil]; rfl
theorem readR_map (f0 : f 0 = 0) {cp : Bool} {vs : List Vr} {rec rec' : Prs} (hr : NatR f nv nv' rec rec') {L : List Tok} (k : NumP f nv nv' L) : readR nv' cp vs rec' L = mapR f (readR nv cp vs rec L) := by
  cases L with
  | nil => rfl
  | cons t r =>
    simp only [readR]
    cases e1 : advT (t :: r) with
    | none => rfl
    | some L1 =>
      have k1 := k.adv (.one e1)
      cases cp with
      | true =>
        simp only
        cases e2 : takeT [64] L1 with
        | none => rfl
        | some L2 =>
          have k2 := k1.adv (.take e2)
          simp only
          rw [numT_map k2]
          cases e3 : numT nv L2 with
          | none => rfl
          | some p =>
            obtain ⟨c, L3⟩ := p
            exact argR_map f0 hr (k2.adv (.num e3))
      | false =>
        simp only
        split
        · rfl
        · have := argR_map f0 hr (n := nameI vs t) (c := 0) k1
          rw [f0] at this
          exact this
theorem groupR_map (f0 : f 0 = 0) {rec rec' : Prs} (hr : NatR f nv nv' rec rec') (ha : PAdv rec) {L : List Tok} (k : NumP f nv nv' L) : groupR rec' L = mapR f (groupR rec L) := by
  unfold groupR
  rw [hr L k]
  cases e2 : rec L with
  | none => rfl
  | some p =>
    obtain ⟨a, L2⟩ := p
    have k2 := k.adv (ha _ _ _ e2)
    simp only [mapR, Option.map_some]
    cases L2 with
    | nil => rfl
    | cons u r =>
      simp only
      split
      · cases e3 : advT (u :: r) with
        | none => rfl
        | some L3 =>
          have k3 := k2.adv (.one e3)
          simp only
          rw [hr L3 k3]
          cases e4 : rec L3 with
          | none => rfl
          | some p =>
            obtain ⟨b, L4⟩ := p
            have k4 := k3.adv (ha _ _ _ e4)
            simp only [mapR, Option.map_some]
            cases e5 : takeT [58] L4 with
            | none => rfl
            | some L5 =>
              have k5 := k4.adv (.take e5)
              simp only
              rw [hr L5 k5]
              cases e6 : rec L5 with
              | none => rfl
              | some p =>
                obtain ⟨c, L6⟩ := p
                simp only [mapR, Option.map_some]
                cases e7 : takeT [41] L6 with
                | none => rfl
                | some L7 => simp only [Option.map_some, Ex.mapN_mk, List.map_cons, List.map_nil, f0]; rfl
      · rename_i hu
        cases eo : opT u with
        | none => rfl
        | some op =>
          have hop : op ≠ 0 := by
            unfold opT at eo
            cases e : signL.find? fun p => decide (p.1 = u) with
            | none => rw [e] at eo; cases eo
            | some p =>
              rw [e] at eo
              have hm := List.mem_of_find?_eq_some e
              have key : ∀ p ∈ signL, p.2 ≠ 0 := by decide
              have : p.2 = op := by simpa using eo
              rw [← this]; exact key p hm
          simp only
          cases e3 : advT (u :: r) with
          | none => rfl
          | some L3 =>
            have k3 := k2.adv (.one e3)
            simp only
            rw [hr L3 k3]
            cases e4 : rec L3 with
            | none => rfl
            | some p =>
              obtain ⟨b, L4⟩ := p
              simp only [mapR, Option.map_some]
              cases e5 : takeT [41] L4 with
              | none => rfl
              | some L5 => simp only [Option.map_some, Ex.mapN_mk, List.map_cons, List.map_nil, f0, if_neg hop]
theorem exprF_map (f0 : f 0 = 0) {cp : Bool} {vs : List Vr} : ∀ m, NatR f nv nv' (exprF nv cp vs m) (exprF nv' cp vs m)
  | 0 => fun L k => rfl
  | m + 1 => by
    have hr := exprF_map f0 (cp := cp) (vs := vs) m
    intro L k
    rw [exprF, exprF]
    cases L with
    | nil => rfl
    | cons t r =>
      rw [exprR, exprR]
      split
      · cases e1 : advT (t :: r) with
        | none => rfl
        | some L1 =>
          simp only
          rw [hr L1 (k.adv (.one e1))]
          cases exprF nv cp vs m L1 with
          | none => rfl
          | some p =>
            obtain ⟨a, L2⟩ := p
            simp only [mapR, Option.map_some, Ex.mapN_mk, List.map_cons, List.map_nil, f0]; rfl
      · split
        · cases e1 : advT (t :: r) with
          | none => rfl
          | some L1 => exact groupR_map f0 hr (exprF_adv nv cp vs m) (k.adv (.one e1))
        · split
          · exact readR_map f0 hr k
          · rw [numT_map k]
            cases numT nv (t :: r) with
            | none => rfl
            | some p =>
              obtain ⟨n, L1⟩ := p
              simp only [mapR, Option.map_some, Ex.mapN_mk, List.map_nil, f0]; rfl
theorem parX_map (f0 : f 0 = 0) {cp : Bool} {vs : List Vr} {s : List UInt8} (k : NumP f nv nv' (lexL s)) : parX nv' cp vs s = (parX nv cp vs s).map (Ex.mapN f) := by
  unfold parX
  split
  · rfl
  · rw [exprF_map f0 _ _ k]
    cases exprF nv cp vs ((lexL s).length + 1) (lexL s) with
    | none => rfl
    | some p =>
      obtain ⟨e, L⟩ := p
      cases L with
      | nil => rfl
      | cons u r => rfl
end
end Go.Proofs.Ytlidnionbofkaaa.Hm.V
