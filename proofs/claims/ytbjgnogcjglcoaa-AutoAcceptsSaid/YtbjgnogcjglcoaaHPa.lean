/- A program logic over H: more fuel changes nothing; what is known of the slots is a table; each step is a rule. -/
import Derived.Test.YtbjgnogcjglcoaaHD
namespace Go.Proofs.Ytbjgnogcjglcoaa.Hm
open Go
set_option linter.all false
/-! ### more fuel -/
abbrev CallF := Nat → List Value → Heap → Option (Value × Heap)
def CallF.le (c c' : CallF) : Prop := ∀ f vs h r, c f vs h = some r → c' f vs h = some r
theorem xoper_le {c c' : CallF} (hs : c.le c') {lo : Nat} {σ : List Value} {h : Heap} {op : HOp} {r : Value × Heap} (hx : xoper c lo σ h op = some r) : xoper c' lo σ h op = some r := by
  cases op
  case call f args =>
    simp only [xoper] at hx ⊢
    split at hx
    · exact hs _ _ _ _ hx
    · cases hx
  all_goals exact hx
theorem step1_le {c c' : CallF} (hs : c.le c') {lo : Nat} {o : HOper} {σ : List Value} {h : Heap} {r : List Value × Heap} (hx : step1 c lo o σ h = some r) : step1 c' lo o σ h = some r := by
  unfold step1 at hx ⊢
  split at hx
  · rename_i hg
    rw [if_pos hg]
    split at hx
    · rename_i v h' he
      rw [xoper_le hs he]
      exact hx
    · cases hx
  · rename_i hg
    rw [if_neg hg]
    exact hx
theorem rops_le {c c' : CallF} (hs : c.le c') {lo : Nat} : ∀ {ops : List HOper} {σ : List Value} {h : Heap} {r : List Value × Heap}, rops c lo ops σ h = some r → rops c' lo ops σ h = some r
  | [], σ, h, r, hx => hx
  | o :: os, σ, h, r, hx => by
    simp only [rops] at hx ⊢
    split at hx
    · rename_i σ' h' he
      rw [step1_le hs he]
      exact rops_le hs hx
    · cases hx
theorem drws_le {c c' : CallF} (hs : c.le c') {lo : Nat} {ops : List HOper} : ∀ {sched : List (Nat × List Nat)} {σ : List Value} {h : Heap} {r : List Value × Heap}, drws c lo ops sched σ h = some r → drws c' lo ops sched σ h = some r
  | [], σ, h, r, hx => hx
  | (i, js) :: rest, σ, h, r, hx => by
    simp only [drws] at hx ⊢
    split at hx
    · rename_i o ho
      split at hx
      · rename_i σ' h' he
        simp only [step1_le hs he]
        split at hx
        · rename_i hr
          rw [if_pos hr]
          exact drws_le hs hx
        · cases hx
      · cases hx
    · cases hx
theorem run_le {F : Nat → Option HFn} {lo : Nat} : ∀ (n m : Nat), n ≤ m → ∀ (c : HC) (σ : List Value) (h : Heap) (r : Out × List Value × Heap), run F lo n c σ h = some r → run F lo m c σ h = some r := by
  intro n
  induction n with
  | zero => intro m _ c σ h r hr; cases hr
  | succ n ih =>
    intro m hm c σ h r hr
    obtain ⟨m, rfl⟩ : ∃ k, m = k + 1 := ⟨m - 1, by omega⟩
    have hnm : n ≤ m := by omega
    have hc : CallF.le (hcall F lo n) (hcall F lo m) := by
      intro f vs h r hx
      unfold hcall at hx ⊢
      split at hx
      · cases hx
      · rename_i fn hf
        split at hx
        · exact hx
        · split at hx
          · cases hx
          · rename_i out σ' h' hne hrun
            rw [ih m hnm _ _ _ _ hrun]
            cases out with
            | ext id => exact absurd rfl (hne id)
            | nrm => exact hx
            | ret => exact hx
          · cases hx
    cases c with
    | skip => exact hr
    | ret => exact hr
    | exit id => exact hr
    | seq a b =>
      simp only [run] at hr ⊢
      split at hr
      · rename_i σ' h' he
        rw [ih m hnm _ _ _ _ he]
        exact ih m hnm _ _ _ _ hr
      · rename_i hne
        rw [ih m hnm _ _ _ _ hr]
        obtain ⟨out, σ', h'⟩ := r
        cases out with
        | nrm => exact absurd hr (hne _ _)
        | ret => rfl
        | ext id => rfl
    | cond c a b =>
      simp only [run] at hr ⊢
      split at hr
      · rename_i he; exact ih m hnm _ _ _ _ hr
      · rename_i he; exact ih m hnm _ _ _ _ hr
      · cases hr
    | block id c =>
      simp only [run] at hr ⊢
      split at hr
      · rename_i id' σ' h' he
        rw [ih m hnm _ _ _ _ he]
        exact hr
      · rename_i hne
        rw [ih m hnm _ _ _ _ hr]
        obtain ⟨out, σ', h'⟩ := r
        cases out with
        | nrm => rfl
        | ret => rfl
        | ext id => exact absurd hr (hne _ _ _)
    | loop c =>
      simp only [run] at hr ⊢
      split at hr
      · rename_i σ' h' he
        rw [ih m hnm _ _ _ _ he]
        exact ih m hnm _ _ _ _ hr
      · rename_i hne
        rw [ih m hnm _ _ _ _ hr]
        obtain ⟨out, σ', h'⟩ := r
        cases out with
        | nrm => exact absurd hr (hne _ _)
        | ret => rfl
        | ext id => rfl
    | rgn ops =>
      simp only [run] at hr ⊢
      obtain ⟨p, hp, he⟩ := Option.map_eq_some_iff.1 hr
      have hp : rops (hcall F lo n) lo ops σ h = some p := hp
      have := rops_le hc hp
      show Option.map _ (rops (hcall F lo m) lo ops σ h) = _
      rw [this]; exact congrArg some he
    | drw ops sched =>
      simp only [run] at hr ⊢
      obtain ⟨p, hp, he⟩ := Option.map_eq_some_iff.1 hr
      have hp : drws (hcall F lo n) lo ops sched σ h = some p := hp
      have := drws_le hc hp
      show Option.map _ (drws (hcall F lo m) lo ops sched σ h) = _
      rw [this]; exact congrArg some he
theorem hcall_le {F : Nat → Option HFn} {lo n m : Nat} (hnm : n ≤ m) : CallF.le (hcall F lo n) (hcall F lo m) := by
  intro f vs h r hx
  unfold hcall at hx ⊢
  split at hx
  · cases hx
  · rename_i fn hf
    split at hx
    · exact hx
    · split at hx
      · cases hx
      · rename_i out σ' h' hne hrun
        rw [run_le n m hnm _ _ _ _ hrun]
        cases out with
        | ext id => exact absurd rfl (hne id)
        | nrm => exact hx
        | ret => exact hx
      · cases hx
/-! ### what is known of the slots -/
abbrev Tab := List (Nat × Value)
def look : Tab → Nat → Option Value
  | [], _ => none
  | (i, v) :: A, j => match Nat.beq i j with
    | true => some v
    | false => look A j
def Sl (N : Nat) (A : Tab) (σ : List Value) : Prop := σ.length = N ∧ ∀ i v, look A i = some v → σ[i]? = some v
def evA (A : Tab) : Operand → Option Value
  | .tmp t => look A t
  | .const v => some v
  | .func f => some (.func (.func f) #[] #[])
  | .global _ => none
theorem evA_ok {N : Nat} {A : Tab} {σ : List Value} (hs : Sl N A σ) {x : Operand} {v : Value} (h : evA A x = some v) : ev σ x = v := by
  cases x with
  | tmp t => show σ.getD t undef = v; rw [List.getD_eq_getElem?_getD, hs.2 t v h]; rfl
  | const v => cases h; rfl
  | func f => cases h; rfl
  | global g => cases h
def evsA (A : Tab) : List Operand → Option (List Value)
  | [] => some []
  | x :: xs => match evA A x, evsA A xs with
    | some v, some vs => some (v :: vs)
    | _, _ => none
theorem evsA_ok {N : Nat} {A : Tab} {σ : List Value} (hs : Sl N A σ) : ∀ {xs : List Operand} {vs : List Value}, evsA A xs = some vs → xs.map (ev σ) = vs
  | [], vs, h => by cases h; rfl
  | x :: xs, vs, h => by
    simp only [evsA] at h
    split at h
    · rename_i v vs2 h1 h2
      cases h
      rw [List.map_cons, evA_ok hs h1, evsA_ok hs h2]
    · cases h
def putA (A : Tab) : Option Nat → Value → Tab
  | none, _ => A
  | some d, v => (d, v) :: A
def dlt (N : Nat) : Option Nat → Bool
  | none => true
  | some d => Nat.blt d N
theorem Sl.put {N : Nat} {A : Tab} {σ : List Value} (hs : Sl N A σ) {d : Option Nat} {v : Value} (hd : dlt N d = true) : Sl N (putA A d v) (putD σ d v) := by
  cases d with
  | none => exact hs
  | some d =>
    have hd : d < N := by simpa [dlt] using hd
    refine ⟨by simp [putD, hs.1], fun i w hw => ?_⟩
    simp only [putA, look] at hw
    simp only [putD]
    split at hw
    · rename_i hb
      cases hw
      have : d = i := by simpa using hb
      subst this
      rw [List.getElem?_set_self (by rw [hs.1]; exact hd)]
    · rename_i hb
      have : d ≠ i := fun e => by subst e; simp at hb
      rw [List.getElem?_set_ne this]
      exact hs.2 i w hw
/-- All of the first table stands in the second. -/
def SubT : Tab → Tab → Prop
  | [], _ => True
  | (i, v) :: B, A => look A i = some v ∧ SubT B A
theorem SubT.look {A : Tab} : ∀ {B : Tab}, SubT B A → ∀ i v, look B i = some v → look A i = some v
  | [], _, i, v, h => by cases h
  | (j, w) :: B, hs, i, v, h => by
    simp only [Hm.look] at h
    split at h
    · rename_i hb
      have : j = i := by simpa using hb
      subst this; cases h; exact hs.1
    · exact SubT.look hs.2 i v h
theorem Sl.sub {N : Nat} {A B : Tab} {σ : List Value} (hs : Sl N A σ) (hb : SubT B A) : Sl N B σ := ⟨hs.1, fun i v h => hs.2 i v (hb.look i v h)⟩
def argsA : Nat → List Value → Tab
  | _, [] => []
  | i, v :: vs => (i, v) :: argsA (i + 1) vs
theorem argsA_look : ∀ {vs : List Value} {i j : Nat} {v : Value}, look (argsA i vs) j = some v → i ≤ j ∧ vs[j - i]? = some v
  | [], i, j, v, h => by cases h
  | x :: vs, i, j, v, h => by
    simp only [argsA, look] at h
    split at h
    · rename_i hb
      have : i = j := by simpa using hb
      subst this; cases h; simp
    · obtain ⟨h1, h2⟩ := argsA_look h
      refine ⟨by omega, ?_⟩
      have : j - i = (j - (i + 1)) + 1 := by omega
      rw [this]; simpa using h2
theorem Sl.args {N : Nat} {vs : List Value} (h : vs.length ≤ N) : Sl N (argsA 0 vs) (vs ++ List.replicate (N - vs.length) undef) := by
  refine ⟨by simp; omega, fun i v hv => ?_⟩
  obtain ⟨_, h2⟩ := argsA_look hv
  simp only [Nat.sub_zero] at h2
  have : i < vs.length := by
    rcases Nat.lt_or_ge i vs.length with h | h
    · exact h
    · rw [List.getElem?_eq_none h] at h2; cases h2
  rw [List.getElem?_append_left this]; exact h2
end Go.Proofs.Ytbjgnogcjglcoaa.Hm
