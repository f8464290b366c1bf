import Derived.Test.YtlidnionbofkaaaA1
/- A program logic over H: more fuel changes nothing; what is known of the slots is a table; each step is a rule. -/
namespace Go.Proofs.Ytlidnionbofkaaa.Hm
noncomputable section
open Go
set_option linter.all false
/-! ### more fuel -/
abbrev CallF := Nat → List Value → Heap → Option (Value × Heap)
def CallF.le (c c' : CallF) : Prop := ∀ f vs h r, c f vs h = some r → c' f vs h = some r
theorem xoper_le {c c' : CallF} (hs : c.le c') {lo : Nat} {σ : List Value} {h : Heap} {op : HOp} {r : Value × Heap} (hx : xoper c lo σ h op = some r) : xoper c' lo σ h op = some r := by
  cases op
  case call f args =>
    simp only [xoper] at hx ⊢
    split at hx
    · exact hs _ _ _ _ hx
    · cases hx
  all_goals exact hx
theorem step1_le {c c' : CallF} (hs : c.le c') {lo : Nat} {o : HOper} {σ : List Value} {h : Heap} {r : List Value × Heap} (hx : step1 c lo o σ h = some r) : step1 c' lo o σ h = some r := by
  unfold step1 at hx ⊢
  split at hx
  · rename_i hg
    rw [if_pos hg]
    split at hx
    · rename_i v h' he
      rw [xoper_le hs he]
      exact hx
    · cases hx
  · rename_i hg
    rw [if_neg hg]
    exact hx
theorem rops_le {c c' : CallF} (hs : c.le c') {lo : Nat} : ∀ {ops : List HOper} {σ : List Value} {h : Heap} {r : List Value × Heap}, rops c lo ops σ h = some r → rops c' lo ops σ h = some r
  | [], σ, h, r, hx => hx
  | o :: os, σ, h, r, hx => by
    simp only [rops] at hx ⊢
    split at hx
    · rename_i σ' h' he
      rw [step1_le hs he]
      exact rops_le hs hx
    · cases hx
theorem drws_le {c c' : CallF} (hs : c.le c') {lo : Nat} {ops : List HOper} : ∀ {sched : List (Nat × List Nat)} {σ : List Value} {h : Heap} {r : List Value × Heap}, drws c lo ops sched σ h = some r → drws c' lo ops sched σ h = some r
  | [], σ, h, r, hx => hx
  | (i, js) :: rest, σ, h, r, hx => by
    simp only [drws, atR_eq] at hx ⊢
    split at hx
    · rename_i o ho
      split at hx
      · rename_i σ' h' he
        simp only [step1_le hs he]
        split at hx
        · rename_i hr
          rw [if_pos hr]
          exact drws_le hs hx
        · cases hx
      · cases hx
    · cases hx
theorem run_le {F : Nat → Option HFn} {lo : Nat} : ∀ (n m : Nat), n ≤ m → ∀ (c : HC) (σ : List Value) (h : Heap) (r : Out × List Value × Heap), run F lo n c σ h = some r → run F lo m c σ h = some r := by
  intro n
  induction n with
  | zero => intro m _ c σ h r hr; cases hr
  | succ n ih =>
    intro m hm c σ h r hr
    obtain ⟨m, rfl⟩ : ∃ k, m = k + 1 := ⟨m - 1, by omega⟩
    have hnm : n ≤ m := by omega
    have hc : CallF.le (hcall F lo n) (hcall F lo m) := by
      intro f vs h r hx
      unfold hcall at hx ⊢
      split at hx
      · cases hx
      · rename_i fn hf
        split at hx
        · exact hx
        · split at hx
          · cases hx
          · rename_i out σ' h' hne hrun
            rw [ih m hnm _ _ _ _ hrun]
            cases out with
            | ext id => exact absurd rfl (hne id)
            | nrm => exact hx
            | ret => exact hx
          · cases hx
    cases c with
    | skip => exact hr
    | ret => exact hr
    | exit id => exact hr
    | seq a b =>
      simp only [run] at hr ⊢
      split at hr
      · rename_i σ' h' he
        rw [ih m hnm _ _ _ _ he]
        exact ih m hnm _ _ _ _ hr
      · rename_i hne
        rw [ih m hnm _ _ _ _ hr]
        obtain ⟨out, σ', h'⟩ := r
        cases out with
        | nrm => exact absurd hr (hne _ _)
        | ret => rfl
        | ext id => rfl
    | cond c a b =>
      simp only [run] at hr ⊢
      split at hr
      · rename_i he; exact ih m hnm _ _ _ _ hr
      · rename_i he; exact ih m hnm _ _ _ _ hr
      · cases hr
    | block id c =>
      simp only [run] at hr ⊢
      split at hr
      · rename_i id' σ' h' he
        rw [ih m hnm _ _ _ _ he]
        exact hr
      · rename_i hne
        rw [ih m hnm _ _ _ _ hr]
        obtain ⟨out, σ', h'⟩ := r
        cases out with
        | nrm => rfl
        | ret => rfl
        | ext id => exact absurd hr (hne _ _ _)
    | loop c =>
      simp only [run] at hr ⊢
      split at hr
      · rename_i σ' h' he
        rw [ih m hnm _ _ _ _ he]
        exact ih m hnm _ _ _ _ hr
      · rename_i hne
        rw [ih m hnm _ _ _ _ hr]
        obtain ⟨out, σ', h'⟩ := r
        cases out with
        | nrm => exact absurd hr (hne _ _)
        | ret => rfl
        | ext id => rfl
    | rgn ops =>
      simp only [run] at hr ⊢
      obtain ⟨p, hp, he⟩ := Option.map_eq_some_iff.1 hr
      have hp : rops (hcall F lo n) lo ops σ h = some p := hp
      have := rops_le hc hp
      show Option.map _ (rops (hcall F lo m) lo ops σ h) = _
      rw [this]; exact congrArg some he
    | drw ops sched =>
      simp only [run] at hr ⊢
      obtain ⟨p, hp, he⟩ := Option.map_eq_some_iff.1 hr
      have hp : drws (hcall F lo n) lo ops sched σ h = some p := hp
      have := drws_le hc hp
      show Option.map _ (drws (hcall F lo m) lo ops sched σ h) = _
      rw [this]; exact congrArg some he
theorem hcall_le {F : Nat → Option HFn} {lo n m : Nat} (hnm : n ≤ m) : CallF.le (hcall F lo n) (hcall F lo m) := by
  intro f vs h r hx
  unfold hcall at hx ⊢
  split at hx
  · cases hx
  · rename_i fn hf
    split at hx
    · exact hx
    · split at hx
      · cases hx
      · rename_i out σ' h' hne hrun
        rw [run_le n m hnm _ _ _ _ hrun]
        cases out with
        | ext id => exact absurd rfl (hne id)
        | nrm => exact hx
        | ret => exact hx
      · cases hx
/-! ### what is known of the slots -/
abbrev Tab := List (Nat × Value)
def look : Tab → Nat → Option Value
  | [], _ => none
  | (i, v) :: A, j => match Nat.beq i j with
    | true => some v
    | false => look A j
def Sl (N : Nat) (A : Tab) (σ : List Value) : Prop := σ.length = N ∧ ∀ i v, look A i = some v → σ[i]? = some v
def evA (A : Tab) : Operand → Option Value
  | .tmp t => look A t
  | .const v => some v
  | .func f => some (.func (.func f) #[] #[])
  | .global _ => none
theorem evA_ok {N : Nat} {A : Tab} {σ : List Value} (hs : Sl N A σ) {x : Operand} {v : Value} (h : evA A x = some v) : ev σ x = v := by
  cases x with
  | tmp t => show ev σ (.tmp t) = v; rw [ev_tmp, List.getD_eq_getElem?_getD, hs.2 t v h]; rfl
  | const v => cases h; rfl
  | func f => cases h; rfl
  | global g => cases h
def evsA (A : Tab) : List Operand → Option (List Value)
  | [] => some []
  | x :: xs => match evA A x, evsA A xs with
    | some v, some vs => some (v :: vs)
    | _, _ => none
theorem evsA_ok {N : Nat} {A : Tab} {σ : List Value} (hs : Sl N A σ) : ∀ {xs : List Operand} {vs : List Value}, evsA A xs = some vs → xs.map (ev σ) = vs
  | [], vs, h => by cases h; rfl
  | x :: xs, vs, h => by
    simp only [evsA] at h
    split at h
    · rename_i v vs2 h1 h2
      cases h
      rw [List.map_cons, evA_ok hs h1, evsA_ok hs h2]
    · cases h
def putA (A : Tab) : Option Nat → Value → Tab
  | none, _ => A
  | some d, v => (d, v) :: A
def dlt (N : Nat) : Option Nat → Bool
  | none => true
  | some d => Nat.blt d N
theorem Sl.put {N : Nat} {A : Tab} {σ : List Value} (hs : Sl N A σ) {d : Option Nat} {v : Value} (hd : dlt N d = true) : Sl N (putA A d v) (putD σ d v) := by
  cases d with
  | none => exact hs
  | some d =>
    have hd : d < N := by simpa [dlt] using hd
    refine ⟨by simp [putD, setS_eq, hs.1], fun i w hw => ?_⟩
    simp only [putA, look] at hw
    simp only [putD, setS_eq]
    split at hw
    · rename_i hb
      cases hw
      have : d = i := by simpa using hb
      subst this
      rw [List.getElem?_set_self (by rw [hs.1]; exact hd)]
    · rename_i hb
      have : d ≠ i := fun e => by subst e; simp at hb
      rw [List.getElem?_set_ne this]
      exact hs.2 i w hw
/-- All of the first table stands in the second. -/
def SubT : Tab → Tab → Prop
  | [], _ => True
  | (i, v) :: B, A => look A i = some v ∧ SubT B A
theorem SubT.look {A : Tab} : ∀ {B : Tab}, SubT B A → ∀ i v, look B i = some v → look A i = some v
  | [], _, i, v, h => by cases h
  | (j, w) :: B, hs, i, v, h => by
    simp only [Hm.look] at h
    split at h
    · rename_i hb
      have : j = i := by simpa using hb
      subst this; cases h; exact hs.1
    · exact SubT.look hs.2 i v h
theorem Sl.sub {N : Nat} {A B : Tab} {σ : List Value} (hs : Sl N A σ) (hb : SubT B A) : Sl N B σ := ⟨hs.1, fun i v h => hs.2 i v (hb.look i v h)⟩
def argsA : Nat → List Value → Tab
  | _, [] => []
  | i, v :: vs => (i, v) :: argsA (i + 1) vs
theorem argsA_look : ∀ {vs : List Value} {i j : Nat} {v : Value}, look (argsA i vs) j = some v → i ≤ j ∧ vs[j - i]? = some v
  | [], i, j, v, h => by cases h
  | x :: vs, i, j, v, h => by
    simp only [argsA, look] at h
    split at h
    · rename_i hb
      have : i = j := by simpa using hb
      subst this; cases h; simp
    · obtain ⟨h1, h2⟩ := argsA_look h
      refine ⟨by omega, ?_⟩
      have : j - i = (j - (i + 1)) + 1 := by omega
      rw [this]; simpa using h2
theorem Sl.args {N : Nat} {vs : List Value} (h : vs.length ≤ N) : Sl N (argsA 0 vs) (vs ++ List.replicate (N - vs.length) undef) := by
  refine ⟨by simp; omega, fun i v hv => ?_⟩
  obtain ⟨_, h2⟩ := argsA_look hv
  simp only [Nat.sub_zero] at h2
  have : i < vs.length := by
    rcases Nat.lt_or_ge i vs.length with h | h
    · exact h
    · rw [List.getElem?_eq_none h] at h2; cases h2
  rw [List.getElem?_append_left this]; exact h2
end
end Go.Proofs.Ytlidnionbofkaaa.Hm
/- The rules of the logic over H. -/
namespace Go.Proofs.Ytlidnionbofkaaa.Hm
noncomputable section
open Go
set_option linter.all false
/-! ### the statements -/
def X (F : Nat → Option HFn) (lo : Nat) (op : HOp) (N : Nat) (A : Tab) (h : Heap) (K : Value → Heap → Prop) : Prop :=
  ∀ σ, Sl N A σ → ∃ n v h', xoper (hcall F lo n) lo σ h op = some (v, h') ∧ K v h'
def S (F : Nat → Option HFn) (lo : Nat) (o : HOper) (N : Nat) (A : Tab) (h : Heap) (K : Tab → Heap → Prop) : Prop :=
  ∀ σ, Sl N A σ → ∃ n σ' h', step1 (hcall F lo n) lo o σ h = some (σ', h') ∧ ∃ A', Sl N A' σ' ∧ K A' h'
def R (F : Nat → Option HFn) (lo : Nat) (ops : List HOper) (N : Nat) (A : Tab) (h : Heap) (K : Tab → Heap → Prop) : Prop :=
  ∀ σ, Sl N A σ → ∃ n σ' h', rops (hcall F lo n) lo ops σ h = some (σ', h') ∧ ∃ A', Sl N A' σ' ∧ K A' h'
def D (F : Nat → Option HFn) (lo : Nat) (ops : List HOper) (sched : List (Nat × List Nat)) (N : Nat) (A : Tab) (h : Heap) (K : Tab → Heap → Prop) : Prop :=
  ∀ σ, Sl N A σ → ∃ n σ' h', drws (hcall F lo n) lo ops sched σ h = some (σ', h') ∧ ∃ A', Sl N A' σ' ∧ K A' h'
def W (F : Nat → Option HFn) (lo : Nat) (c : HC) (N : Nat) (A : Tab) (h : Heap) (Q : Out → Tab → Heap → Prop) : Prop :=
  ∀ σ, Sl N A σ → ∃ n out σ' h', run F lo n c σ h = some (out, σ', h') ∧ ∃ A', Sl N A' σ' ∧ Q out A' h'
/-- A call. -/
def HCall (F : Nat → Option HFn) (lo k : Nat) (vs : List Value) (h : Heap) (K : Value → Heap → Prop) : Prop :=
  ∃ n v h', hcall F lo n k vs h = some (v, h') ∧ K v h'
section
variable {F : Nat → Option HFn} {lo N : Nat} {A : Tab} {h : Heap}
theorem HCall.out {k : Nat} {vs : List Value} {K : Value → Heap → Prop} (hc : HCall F lo k vs h K) : ∃ n v h', hcall F lo n k vs h = some (v, h') ∧ K v h' := hc
theorem HCall.mono {k : Nat} {vs : List Value} {K K' : Value → Heap → Prop} (hc : HCall F lo k vs h K) (hk : ∀ v h', K v h' → K' v h') : HCall F lo k vs h K' := by
  obtain ⟨n, v, h', h1, h2⟩ := hc
  exact ⟨n, v, h', h1, hk _ _ h2⟩
/-! ### regions -/
theorem R_nil {K : Tab → Heap → Prop} (k : K A h) : R F lo [] N A h K := fun σ hs => ⟨0, σ, h, rfl, A, hs, k⟩
theorem R_cons {o : HOper} {os : List HOper} {K : Tab → Heap → Prop} (k : S F lo o N A h (fun A1 h1 => R F lo os N A1 h1 K)) : R F lo (o :: os) N A h K := by
  intro σ hs
  obtain ⟨n, σ1, h1, k1, A1, hs1, k2⟩ := k σ hs
  obtain ⟨m, σ2, h2, k3, A2, hs2, k4⟩ := k2 σ1 hs1
  refine ⟨max n m, σ2, h2, ?_, A2, hs2, k4⟩
  simp only [rops, step1_le (hcall_le (Nat.le_max_left n m)) k1]
  exact rops_le (hcall_le (Nat.le_max_right n m)) k3
theorem D_nil {ops : List HOper} {K : Tab → Heap → Prop} (k : K A h) : D F lo ops [] N A h K := fun σ hs => ⟨0, σ, h, rfl, A, hs, k⟩
theorem D_cons {ops : List HOper} {i : Nat} {rest : List (Nat × List Nat)} {o : HOper} {K : Tab → Heap → Prop} (ho : ops[i]? = some o) (k : S F lo o N A h (fun A1 h1 => D F lo ops rest N A1 h1 K)) : D F lo ops ((i, []) :: rest) N A h K := by
  intro σ hs
  obtain ⟨n, σ1, h1, k1, A1, hs1, k2⟩ := k σ hs
  obtain ⟨m, σ2, h2, k3, A2, hs2, k4⟩ := k2 σ1 hs1
  refine ⟨max n m, σ2, h2, ?_, A2, hs2, k4⟩
  simp only [drws, ho, step1_le (hcall_le (Nat.le_max_left n m)) k1, recheck, if_true, atR_eq]
  exact drws_le (hcall_le (Nat.le_max_right n m)) k3
/-- An operation that stands for loads made early: they are read anew. -/
theorem D_consR {ops : List HOper} {i : Nat} {js : List Nat} {rest : List (Nat × List Nat)} {o : HOper} {K : Tab → Heap → Prop} (ho : ops[i]? = some o) (k : S F lo o N A h (fun A1 h1 => (∀ σ, Sl N A1 σ → recheck lo ops σ h1 js = true) ∧ D F lo ops rest N A1 h1 K)) : D F lo ops ((i, js) :: rest) N A h K := by
  intro σ hs
  obtain ⟨n, σ1, h1, k1, A1, hs1, kr, k2⟩ := k σ hs
  obtain ⟨m, σ2, h2, k3, A2, hs2, k4⟩ := k2 σ1 hs1
  refine ⟨max n m, σ2, h2, ?_, A2, hs2, k4⟩
  simp only [drws, ho, step1_le (hcall_le (Nat.le_max_left n m)) k1, kr σ1 hs1, if_true, atR_eq]
  exact drws_le (hcall_le (Nat.le_max_right n m)) k3
/-! ### one step -/
theorem wanted_tab {σ : List Value} (hs : Sl N A σ) {t : Nat} {b c : Bool} (hl : look A t = some (.bool c)) : wantedH σ (some (t, b)) = (c == b) := by
  simp only [wantedH, hs.2 t _ hl, atR_eq]
theorem S_do {d : Option Nat} {op : HOp} {K : Tab → Heap → Prop} (hd : dlt N d = true) (k : X F lo op N A h (fun v h1 => K (putA A d v) h1)) : S F lo ⟨d, op, none⟩ N A h K := by
  intro σ hs
  obtain ⟨n, v, h1, k1, k2⟩ := k σ hs
  refine ⟨n, putD σ d v, h1, ?_, putA A d v, hs.put hd, k2⟩
  simp only [step1, wantedH, if_true, k1, atR_eq]
theorem S_if {d : Option Nat} {op : HOp} {t : Nat} {b : Bool} {K : Tab → Heap → Prop} (hl : look A t = some (.bool b)) (hd : dlt N d = true) (k : X F lo op N A h (fun v h1 => K (putA A d v) h1)) : S F lo ⟨d, op, some (t, b)⟩ N A h K := by
  intro σ hs
  obtain ⟨n, v, h1, k1, k2⟩ := k σ hs
  refine ⟨n, putD σ d v, h1, ?_, putA A d v, hs.put hd, k2⟩
  simp only [step1, wanted_tab hs hl, BEq.rfl, if_true, k1]
theorem S_no {d : Option Nat} {op : HOp} {t : Nat} {b : Bool} {K : Tab → Heap → Prop} (hl : look A t = some (.bool (!b))) (hd : dlt N d = true) (k : K (putA A d undef) h) : S F lo ⟨d, op, some (t, b)⟩ N A h K := by
  intro σ hs
  refine ⟨0, putD σ d undef, h, ?_, putA A d undef, hs.put hd, k⟩
  have : ((!b) == b) = false := by cases b <;> rfl
  simp only [step1, wanted_tab hs hl, this, Bool.false_eq_true, if_false]
/-- A guard that was never asked. -/
theorem S_un {d : Option Nat} {op : HOp} {t : Nat} {b : Bool} {K : Tab → Heap → Prop} (hl : look A t = some undef) (hd : dlt N d = true) (k : K (putA A d undef) h) : S F lo ⟨d, op, some (t, b)⟩ N A h K := by
  intro σ hs
  refine ⟨0, putD σ d undef, h, ?_, putA A d undef, hs.put hd, k⟩
  have : wantedH σ (some (t, b)) = false := by
    simp only [wantedH, hs.2 t _ hl, atR_eq]; rfl
  simp only [step1, this, Bool.false_eq_true, if_false]
/-! ### operations -/
theorem X_of {op : HOp} {K : Value → Heap → Prop} {v : Value} {h' : Heap} (hnc : ∀ f xs, op ≠ .call f xs) (hx : ∀ σ, Sl N A σ → xop lo σ h op = some (v, h')) (k : K v h') : X F lo op N A h K :=
  fun σ hs => ⟨0, v, h', by cases op <;> first | exact hx σ hs | exact absurd rfl (hnc _ _), k⟩
theorem X_mv {x : Operand} {v : Value} {K : Value → Heap → Prop} (hx : evA A x = some v) (k : K v h) : X F lo (.mv x) N A h K :=
  X_of (by simp) (fun σ hs => by simp only [xop, xopE, evA_ok hs hx]) k
theorem X_pickT {c a b : Operand} {v : Value} {K : Value → Heap → Prop} (hc : evA A c = some (.bool true)) (ha : evA A a = some v) (k : K v h) : X F lo (.pick c a b) N A h K :=
  X_of (by simp) (fun σ hs => by simp only [xop, xopE, evA_ok hs hc, evA_ok hs ha, if_true]) k
theorem X_pickF {c a b : Operand} {v : Value} {K : Value → Heap → Prop} (hc : evA A c = some (.bool false)) (hb : evA A b = some v) (k : K v h) : X F lo (.pick c a b) N A h K :=
  X_of (by simp) (fun σ hs => by simp only [xop, xopE, evA_ok hs hc, evA_ok hs hb, Bool.false_eq_true, if_false]) k
theorem X_alloc {z : List Value} {K : Value → Heap → Prop} (k : K (.pointer (some ⟨h.n, 0, none⟩)) (h.new z)) : X F lo (.alloc z) N A h K :=
  X_of (by simp) (fun σ hs => rfl) k
theorem X_box {x : Operand} {v : Value} {cs : List Value} {K : Value → Heap → Prop} (hx : evA A x = some v) (hc : cellsV v = some cs) (k : K (.pointer (some ⟨h.n, 0, none⟩)) (h.new cs)) : X F lo (.box x) N A h K :=
  X_of (by simp) (fun σ hs => by simp only [xop, xopE, evA_ok hs hx, hc]) k
theorem X_load1 {a : Operand} {b o : Nat} {v : Value} {K : Value → Heap → Prop} (ha : evA A a = some (.pointer (some ⟨b, o, none⟩))) (hr : h.rd1 b o = some v) (k : K v h) : X F lo (.load none a) N A h K :=
  X_of (by simp) (fun σ hs => by simp only [xop, xopE, evA_ok hs ha, hr, Option.map_some]) k
theorem X_load {a : Operand} {n b o : Nat} {cs : List Value} {K : Value → Heap → Prop} (ha : evA A a = some (.pointer (some ⟨b, o, none⟩))) (hr : h.rd b o n = some cs) (k : K (.agg ⟨cs⟩) h) : X F lo (.load (some n) a) N A h K :=
  X_of (by simp) (fun σ hs => by simp only [xop, xopE, evA_ok hs ha, hr, Option.map_some]) k
theorem X_store {a x : Operand} {n b o : Nat} {v : Value} {vs : List Value} {h' : Heap} {K : Value → Heap → Prop} (ha : evA A a = some (.pointer (some ⟨b, o, none⟩))) (hx : evA A x = some v) (hc : cellsV v = some vs) (hl : vs.length = n) (hw : h.wr lo b o vs = some h') (k : K undef h') : X F lo (.store n a x) N A h K :=
  X_of (by simp) (fun σ hs => by simp only [xop, xopE, evA_ok hs ha, evA_ok hs hx, hc, hl, if_true, hw, Option.map_some]) k
theorem X_nilchk {x : Operand} {a : Addr} {K : Value → Heap → Prop} (hx : evA A x = some (.pointer (some a))) (k : K (.pointer (some a)) h) : X F lo (.nilchk x) N A h K :=
  X_of (by simp) (fun σ hs => by simp only [xop, xopE, evA_ok hs hx]) k
theorem X_bin {op : BinOp} {x y : Operand} {a b v : Value} {K : Value → Heap → Prop} (hx : evA A x = some a) (hy : evA A y = some b) (hb : bin op a b = some v) (k : K v h) : X F lo (.bin op x y) N A h K :=
  X_of (by simp) (fun σ hs => by simp only [xop, xopE, evA_ok hs hx, evA_ok hs hy, hb, Option.map_some]) k
theorem X_split {op : BinOp} {x y : Operand} {va vb : Value} {p : Prop} [Decidable p] {K : Value → Heap → Prop} (hx : evA A x = some va) (hy : evA A y = some vb) (hb : bin op va vb = some (.bool (decide p))) (kt : p → K (.bool true) h) (kf : ¬ p → K (.bool false) h) : X F lo (.bin op x y) N A h K := by
  by_cases hp : p
  · refine X_bin hx hy hb ?_
    rw [decide_eq_true hp]; exact kt hp
  · refine X_bin hx hy hb ?_
    rw [decide_eq_false hp]; exact kf hp
theorem bin_lss {k : IntKind} {a b : Int} : bin .lss (.int k a) (.int k b) = some (.bool (decide (a < b))) := by
  simp only [bin, Op.intCmp, ne_eq, not_true_eq_false, if_false]; rfl
theorem bin_leq {k : IntKind} {a b : Int} : bin .leq (.int k a) (.int k b) = some (.bool (decide (a ≤ b))) := by
  simp only [bin, Op.intCmp, ne_eq, not_true_eq_false, if_false]; rfl
theorem bin_gtr {k : IntKind} {a b : Int} : bin .gtr (.int k a) (.int k b) = some (.bool (decide (b < a))) := by
  simp only [bin, Op.intCmp, ne_eq, not_true_eq_false, if_false]; rfl
theorem bin_geq {k : IntKind} {a b : Int} : bin .geq (.int k a) (.int k b) = some (.bool (decide (b ≤ a))) := by
  simp only [bin, Op.intCmp, ne_eq, not_true_eq_false, if_false]; rfl
theorem bin_eql {k : IntKind} {a b : Int} : bin .eql (.int k a) (.int k b) = some (.bool (decide (a = b))) := by
  simp only [bin, Op.intCmp, ne_eq, not_true_eq_false, if_false]; first | rfl | simp [pureRun] | (simp [pureRun]; exact (beq_eq_decide a b))
theorem bin_neq {k : IntKind} {a b : Int} : bin .neq (.int k a) (.int k b) = some (.bool (decide (a ≠ b))) := by
  have h1 : bin .neq (.int k a) (.int k b) = some (.bool (a != b)) := by
    simp only [bin, Op.intCmp, ne_eq, not_true_eq_false, if_false]; rfl
  rw [h1]
  by_cases h : a = b <;> simp [h]
theorem X_lss {x y : Operand} {k : IntKind} {a b : Int} {K : Value → Heap → Prop} (hx : evA A x = some (.int k a)) (hy : evA A y = some (.int k b)) (kt : a < b → K (.bool true) h) (kf : ¬ a < b → K (.bool false) h) : X F lo (.bin .lss x y) N A h K := X_split hx hy bin_lss kt kf
theorem X_leq {x y : Operand} {k : IntKind} {a b : Int} {K : Value → Heap → Prop} (hx : evA A x = some (.int k a)) (hy : evA A y = some (.int k b)) (kt : a ≤ b → K (.bool true) h) (kf : ¬ a ≤ b → K (.bool false) h) : X F lo (.bin .leq x y) N A h K := X_split hx hy bin_leq kt kf
theorem X_gtr {x y : Operand} {k : IntKind} {a b : Int} {K : Value → Heap → Prop} (hx : evA A x = some (.int k a)) (hy : evA A y = some (.int k b)) (kt : b < a → K (.bool true) h) (kf : ¬ b < a → K (.bool false) h) : X F lo (.bin .gtr x y) N A h K := X_split hx hy bin_gtr kt kf
theorem X_geq {x y : Operand} {k : IntKind} {a b : Int} {K : Value → Heap → Prop} (hx : evA A x = some (.int k a)) (hy : evA A y = some (.int k b)) (kt : b ≤ a → K (.bool true) h) (kf : ¬ b ≤ a → K (.bool false) h) : X F lo (.bin .geq x y) N A h K := X_split hx hy bin_geq kt kf
theorem X_eql {x y : Operand} {k : IntKind} {a b : Int} {K : Value → Heap → Prop} (hx : evA A x = some (.int k a)) (hy : evA A y = some (.int k b)) (kt : a = b → K (.bool true) h) (kf : ¬ a = b → K (.bool false) h) : X F lo (.bin .eql x y) N A h K := X_split hx hy bin_eql kt kf
theorem X_neq {x y : Operand} {k : IntKind} {a b : Int} {K : Value → Heap → Prop} (hx : evA A x = some (.int k a)) (hy : evA A y = some (.int k b)) (kt : a = b → K (.bool false) h) (kf : ¬ a = b → K (.bool true) h) : X F lo (.bin .neq x y) N A h K := X_split hx hy bin_neq kf (fun h => kt (Decidable.not_not.1 h))
theorem X_not {x : Operand} {b : Bool} {K : Value → Heap → Prop} (hx : evA A x = some (.bool b)) (k : K (.bool (!b)) h) : X F lo (.un .not x) N A h K :=
  X_of (by simp) (fun σ hs => by simp only [xop, xopE, evA_ok hs hx]; rfl) k
theorem X_un {op : UnOp} {x : Operand} {a v : Value} {K : Value → Heap → Prop} (hx : evA A x = some a) (hb : pureRun (Op.unary op a) = some v) (k : K v h) : X F lo (.un op x) N A h K :=
  X_of (by simp) (fun σ hs => by simp only [xop, xopE, evA_ok hs hx, hb, Option.map_some]) k
theorem X_conv {k' k : IntKind} {n : Int} {x : Operand} {K : Value → Heap → Prop} (hx : evA A x = some (.int k' n)) (kk : K (.int k (k.wrap n)) h) : X F lo (.convI k x) N A h K :=
  X_of (by simp) (fun σ hs => by simp only [xop, xopE, evA_ok hs hx]) kk
theorem X_faddr {off b o : Nat} {x : Operand} {K : Value → Heap → Prop} (hx : evA A x = some (.pointer (some ⟨b, o, none⟩))) (k : K (.pointer (some ⟨b, o + off, none⟩)) h) : X F lo (.faddr off x) N A h K :=
  X_of (by simp) (fun σ hs => by simp only [xop, xopE, evA_ok hs hx]) k
theorem X_field {off : Nat} {agg : Option Nat} {cs : Array Value} {v : Value} {x : Operand} {K : Value → Heap → Prop} (hx : evA A x = some (.agg cs)) (hp : partOf cs.toList off agg = some v) (k : K v h) : X F lo (.field off agg x) N A h K :=
  X_of (by simp) (fun σ hs => by simp only [xop, xopE, evA_ok hs hx, hp, Option.map_some]) k
theorem X_iaddr {esz b o len cap : Nat} {e : Option Nat} {k' : IntKind} {j : Int} {x i : Operand} {K : Value → Heap → Prop} (hx : evA A x = some (.slice (some ⟨b, o, e⟩) len cap)) (hi : evA A i = some (.int k' j)) (h0 : 0 ≤ j) (h1 : j < len) (k : K (.pointer (some ⟨b, o + j.toNat * esz, none⟩)) h) : X F lo (.iaddr esz x i) N A h K :=
  X_of (by simp) (fun σ hs => by simp only [xop, xopE, evA_ok hs hx, evA_ok hs hi, h0, h1, and_self, if_true]) k
theorem X_len {x : Operand} {a : Option Addr} {n c : Nat} {K : Value → Heap → Prop} (hx : evA A x = some (.slice a n c)) (k : K (.int .i64 n) h) : X F lo (.len x) N A h K :=
  X_of (by simp) (fun σ hs => by simp only [xop, xopE, evA_ok hs hx]) k
theorem X_extract {x : Operand} {i : Nat} {vs : Array Value} {v : Value} {K : Value → Heap → Prop} (hx : evA A x = some (.tuple vs)) (hv : vs.toList[i]? = some v) (k : K v h) : X F lo (.extract x i) N A h K :=
  X_of (by simp) (fun σ hs => by simp only [xop, xopE, evA_ok hs hx, hv, Option.map_some]) k
theorem X_call {f : Operand} {args : List Operand} {k : Nat} {first captured : Array Value} {vs : List Value} {K : Value → Heap → Prop} (hf : evA A f = some (.func (.func k) first captured)) (ha : evsA A args = some vs) (kk : HCall F lo k ((first.toList ++ vs) ++ captured.toList) h K) : X F lo (.call f args) N A h K := by
  intro σ hs
  obtain ⟨n, v, h', k1, k2⟩ := kk
  refine ⟨n, v, h', ?_, k2⟩
  simp only [xoper, callee, evA_ok hs hf, evsA_ok hs ha, k1]
/-- A call of a named function. -/
theorem X_callF {args : List Operand} {k : Nat} {vs : List Value} {K : Value → Heap → Prop} (ha : evsA A args = some vs) (kk : HCall F lo k vs h K) : X F lo (.call (.func k) args) N A h K :=
  X_call (f := .func k) rfl ha (by simpa using kk)
/-! ### code -/
def thenQ (K : Tab → Heap → Prop) (Q : Out → Tab → Heap → Prop) : Out → Tab → Heap → Prop
  | .nrm, A, h => K A h
  | o, A, h => Q o A h
def blockQ (id : Nat) (Q : Out → Tab → Heap → Prop) : Out → Tab → Heap → Prop
  | .ext j, A, h => if j = id then Q .nrm A h else Q (.ext j) A h
  | o, A, h => Q o A h
theorem W_skip {Q : Out → Tab → Heap → Prop} (k : Q .nrm A h) : W F lo .skip N A h Q := fun σ hs => ⟨1, .nrm, σ, h, rfl, A, hs, k⟩
theorem W_ret {Q : Out → Tab → Heap → Prop} (k : Q .ret A h) : W F lo .ret N A h Q := fun σ hs => ⟨1, .ret, σ, h, rfl, A, hs, k⟩
theorem W_exit {id : Nat} {Q : Out → Tab → Heap → Prop} (k : Q (.ext id) A h) : W F lo (.exit id) N A h Q := fun σ hs => ⟨1, .ext id, σ, h, rfl, A, hs, k⟩
theorem W_seq {a b : HC} {Q : Out → Tab → Heap → Prop} (k : W F lo a N A h (thenQ (fun A1 h1 => W F lo b N A1 h1 Q) Q)) : W F lo (.seq a b) N A h Q := by
  intro σ hs
  obtain ⟨n, out, σ1, h1, k1, A1, hs1, k2⟩ := k σ hs
  cases out with
  | nrm =>
    obtain ⟨m, out2, σ2, h2, k3, A2, hs2, k4⟩ := k2 σ1 hs1
    refine ⟨max n m + 1, out2, σ2, h2, ?_, A2, hs2, k4⟩
    simp only [run, run_le n (max n m) (Nat.le_max_left _ _) _ _ _ _ k1]
    exact run_le m (max n m) (Nat.le_max_right _ _) _ _ _ _ k3
  | ret => exact ⟨n + 1, .ret, σ1, h1, by simp only [run, k1], A1, hs1, k2⟩
  | ext id => exact ⟨n + 1, .ext id, σ1, h1, by simp only [run, k1], A1, hs1, k2⟩
theorem W_condT {c : Operand} {a b : HC} {Q : Out → Tab → Heap → Prop} (hc : evA A c = some (.bool true)) (k : W F lo a N A h Q) : W F lo (.cond c a b) N A h Q := by
  intro σ hs
  obtain ⟨n, out, σ1, h1, k1, k2⟩ := k σ hs
  exact ⟨n + 1, out, σ1, h1, by simp only [run, evA_ok hs hc, k1], k2⟩
theorem W_condF {c : Operand} {a b : HC} {Q : Out → Tab → Heap → Prop} (hc : evA A c = some (.bool false)) (k : W F lo b N A h Q) : W F lo (.cond c a b) N A h Q := by
  intro σ hs
  obtain ⟨n, out, σ1, h1, k1, k2⟩ := k σ hs
  exact ⟨n + 1, out, σ1, h1, by simp only [run, evA_ok hs hc, k1], k2⟩
theorem W_block {id : Nat} {c : HC} {Q : Out → Tab → Heap → Prop} (k : W F lo c N A h (blockQ id Q)) : W F lo (.block id c) N A h Q := by
  intro σ hs
  obtain ⟨n, out, σ1, h1, k1, A1, hs1, k2⟩ := k σ hs
  cases out with
  | nrm => exact ⟨n + 1, .nrm, σ1, h1, by simp only [run, k1], A1, hs1, k2⟩
  | ret => exact ⟨n + 1, .ret, σ1, h1, by simp only [run, k1], A1, hs1, k2⟩
  | ext j =>
    by_cases hj : j = id
    · simp only [blockQ, if_pos hj] at k2
      exact ⟨n + 1, .nrm, σ1, h1, by simp only [run, k1, if_pos hj], A1, hs1, k2⟩
    · simp only [blockQ, if_neg hj] at k2
      exact ⟨n + 1, .ext j, σ1, h1, by simp only [run, k1, if_neg hj], A1, hs1, k2⟩
theorem W_rgn {ops : List HOper} {Q : Out → Tab → Heap → Prop} (k : R F lo ops N A h (fun A1 h1 => Q .nrm A1 h1)) : W F lo (.rgn ops) N A h Q := by
  intro σ hs
  obtain ⟨n, σ1, h1, k1, A1, hs1, k2⟩ := k σ hs
  refine ⟨n + 1, .nrm, σ1, h1, ?_, A1, hs1, k2⟩
  simp only [run]
  show Option.map _ (rops (hcall F lo n) lo ops σ h) = _
  rw [k1]; rfl
theorem W_drw {ops : List HOper} {sched : List (Nat × List Nat)} {Q : Out → Tab → Heap → Prop} (k : D F lo ops sched N A h (fun A1 h1 => Q .nrm A1 h1)) : W F lo (.drw ops sched) N A h Q := by
  intro σ hs
  obtain ⟨n, σ1, h1, k1, A1, hs1, k2⟩ := k σ hs
  refine ⟨n + 1, .nrm, σ1, h1, ?_, A1, hs1, k2⟩
  simp only [run]
  show Option.map _ (drws (hcall F lo n) lo ops sched σ h) = _
  rw [k1]; rfl
/-- A loop: what is known at its head (by a ghost state), a measure that falls. -/
theorem W_loop {ι : Type} {c : HC} {Q : Out → Tab → Heap → Prop} (T : ι → Tab) (H : ι → Heap → Prop) (μ : ι → Nat) (i0 : ι) (h0 : H i0 h) (hT : SubT (T i0) A)
    (round : ∀ i h, H i h → W F lo c N (T i) h (thenQ (fun A1 h1 => ∃ j, μ j < μ i ∧ H j h1 ∧ SubT (T j) A1) Q)) : W F lo (.loop c) N A h Q := by
  have key : ∀ m i h, μ i = m → H i h → W F lo (.loop c) N (T i) h Q := by
    intro m
    induction m using Nat.strongRecOn with
    | _ m ih =>
      intro i h hm hi σ hs
      obtain ⟨n, out, σ1, h1, k1, A1, hs1, k2⟩ := round i h hi σ hs
      cases out with
      | nrm =>
        obtain ⟨j, hlt, hj, hsub⟩ := k2
        obtain ⟨m', out2, σ2, h2, k3, k4⟩ := ih (μ j) (hm ▸ hlt) j h1 rfl hj σ1 (hs1.sub hsub)
        refine ⟨max n m' + 1, out2, σ2, h2, ?_, k4⟩
        simp only [run, run_le n (max n m') (Nat.le_max_left _ _) _ _ _ _ k1]
        exact run_le m' (max n m') (Nat.le_max_right _ _) _ _ _ _ k3
      | ret => exact ⟨n + 1, .ret, σ1, h1, by simp only [run, k1], A1, hs1, k2⟩
      | ext id => exact ⟨n + 1, .ext id, σ1, h1, by simp only [run, k1], A1, hs1, k2⟩
  exact fun σ hs => key _ i0 h rfl h0 σ (hs.sub hT)
theorem W_mono {c : HC} {Q Q' : Out → Tab → Heap → Prop} (k : W F lo c N A h Q) (hq : ∀ o A h, Q o A h → Q' o A h) : W F lo c N A h Q' := by
  intro σ hs
  obtain ⟨n, out, σ1, h1, k1, A1, hs1, k2⟩ := k σ hs
  exact ⟨n, out, σ1, h1, k1, A1, hs1, hq _ _ _ k2⟩
/-- The results. -/
def resA (h : Heap) (A : Tab) (r : Nat × Option (Option Nat)) : Option Value :=
  match r.2 with
  | none => look A r.1
  | some agg => match look A r.1 with
    | some (.pointer (some ⟨b, o, none⟩)) => match agg with
      | none => h.rd1 b o
      | some n => (h.rd b o n).map fun cs => .agg ⟨cs⟩
    | _ => none
def ressA (h : Heap) (A : Tab) : List (Nat × Option (Option Nat)) → Option (List Value)
  | [] => some []
  | r :: rs => match resA h A r, ressA h A rs with
    | some v, some vs => some (v :: vs)
    | _, _ => none
theorem resA_ok {σ : List Value} (hs : Sl N A σ) {r : Nat × Option (Option Nat)} {v : Value} (hr : resA h A r = some v) : resOf h σ r = some v := by
  obtain ⟨t, agg⟩ := r
  have hd : ∀ w, look A t = some w → σ.getD t undef = w := fun w hw => by rw [List.getD_eq_getElem?_getD, hs.2 t w hw]; rfl
  cases agg with
  | none => simp only [resA] at hr; simp only [resOf, hd v hr]
  | some g =>
    simp only [resA] at hr
    split at hr
    · rename_i b o he
      simp only [resOf, hd _ he]
      exact hr
    · cases hr
theorem ressA_ok {σ : List Value} (hs : Sl N A σ) : ∀ {rs : List (Nat × Option (Option Nat))} {vs : List Value}, ressA h A rs = some vs → ress h σ rs = some vs
  | [], vs, hr => hr
  | r :: rs, vs, hr => by
    simp only [ressA] at hr
    split at hr
    · rename_i v vs2 h1 h2
      cases hr
      simp only [ress, resA_ok hs h1, ressA_ok hs h2]
    · cases hr
/-- A function: its body, from what it is handed. -/
theorem H_fn {k : Nat} {fn : HFn} {vs : List Value} {K : Value → Heap → Prop} (hF : F k = some fn) (hp : fn.prim = none) (hl : vs.length ≤ fn.ntmps)
    (hb : W F lo fn.body fn.ntmps (argsA 0 vs) h (fun out A1 h1 => (∀ id, out ≠ .ext id) ∧ ∃ l, ressA h1 A1 fn.res = some l ∧ K (tupled l) h1)) : HCall F lo k vs h K := by
  obtain ⟨n, out, σ1, h1, k1, A1, hs1, hne, l, k2, k3⟩ := hb _ (Sl.args hl)
  refine ⟨n, tupled l, h1, ?_, k3⟩
  unfold hcall
  simp only [hF, hp, k1]
  cases out with
  | nrm => simp only [ressA_ok hs1 k2, Option.map_some]
  | ret => simp only [ressA_ok hs1 k2, Option.map_some]
  | ext id => exact absurd rfl (hne id)
theorem thenQ_nrm {K : Tab → Heap → Prop} {Q : Out → Tab → Heap → Prop} (k : K A h) : thenQ K Q .nrm A h := k
theorem thenQ_ret {K : Tab → Heap → Prop} {Q : Out → Tab → Heap → Prop} (k : Q .ret A h) : thenQ K Q .ret A h := k
theorem thenQ_ext {K : Tab → Heap → Prop} {Q : Out → Tab → Heap → Prop} {id : Nat} (k : Q (.ext id) A h) : thenQ K Q (.ext id) A h := k
theorem blockQ_nrm {Q : Out → Tab → Heap → Prop} {id : Nat} (k : Q .nrm A h) : blockQ id Q .nrm A h := k
theorem blockQ_ret {Q : Out → Tab → Heap → Prop} {id : Nat} (k : Q .ret A h) : blockQ id Q .ret A h := k
theorem blockQ_ext {Q : Out → Tab → Heap → Prop} {id : Nat} (k : Q .nrm A h) : blockQ id Q (.ext id) A h := by simp only [blockQ, if_true]; exact k
theorem blockQ_far {Q : Out → Tab → Heap → Prop} {id j : Nat} (hj : Nat.beq j id = false) (k : Q (.ext j) A h) : blockQ id Q (.ext j) A h := by
  have : j ≠ id := fun e => by subst e; simp at hj
  simp only [blockQ, if_neg this]; exact k
end
attribute [irreducible] X S R D W HCall
end
end Go.Proofs.Ytlidnionbofkaaa.Hm
/- Facts about H's heap: what a new row changes, and that the elder rows stand as they did. -/
namespace Go.Proofs.Ytlidnionbofkaaa.Hm
noncomputable section
open Go
set_option linter.all false
theorem Heap.new_n (h : Heap) (cs : List Value) : (h.new cs).n = h.n + 1 := rfl
theorem get_top (h : Heap) (cs : List Value) : (h.new cs).get h.n = some (.row cs none) := by simp [Heap.get_def, Heap.new]
theorem get_new (h : Heap) (cs : List Value) {b : Nat} (hb : b < h.n) : (h.new cs).get b = h.get b := by
  have : h.n - b = (h.n - 1 - b) + 1 := by omega
  simp [Heap.get_def, Heap.new, hb, Nat.lt_succ_of_lt hb, this]
theorem get_lt {h : Heap} {b : Nat} {x : HB} (hx : h.get b = some x) : b < h.n := by
  rw [Heap.get_def] at hx
  split at hx
  · assumption
  · cases hx
theorem cells_lt {h : Heap} {b : Nat} {cs : List Value} (hx : h.cells b = some cs) : b < h.n := by
  unfold Heap.cells at hx
  split at hx
  · rename_i e; exact get_lt e
  · rename_i e; exact get_lt e
  · cases hx
/-- The elder rows stand as they did. -/
structure Heap.le (h h' : Heap) : Prop where
  n : h.n ≤ h'.n
  get : ∀ b, b < h.n → h'.get b = h.get b
  m : h.m ≤ h'.m
  cl : ∀ c, c < h.m → h'.cl c = h.cl c
theorem Heap.le.refl (h : Heap) : h.le h := ⟨Nat.le_refl _, fun _ _ => rfl, Nat.le_refl _, fun _ _ => rfl⟩
theorem Heap.le.trans {h h' h'' : Heap} (a : h.le h') (b : h'.le h'') : h.le h'' :=
  ⟨Nat.le_trans a.n b.n, fun x hx => (b.get x (Nat.lt_of_lt_of_le hx a.n)).trans (a.get x hx), Nat.le_trans a.m b.m, fun c hc => (b.cl c (Nat.lt_of_lt_of_le hc a.m)).trans (a.cl c hc)⟩
theorem Heap.le.new {h h' : Heap} (a : h.le h') (cs : List Value) : h.le (h'.new cs) :=
  a.trans ⟨Nat.le_succ _, fun b hb => Hm.get_new _ _ hb, Nat.le_refl _, fun c hc => rfl⟩
theorem Heap.le.cells {h h' : Heap} (a : h.le h') {b : Nat} {cs : List Value} (hx : h.cells b = some cs) : h'.cells b = some cs := by
  have hb := cells_lt hx
  unfold Heap.cells at hx ⊢
  rw [a.get b hb]
  split at hx
  · exact hx
  · rename_i cs2 c e
    split at hx
    · rename_i t fl hc
      have hcm : c < h.m := by
        unfold Heap.cl at hc
        split at hc
        · assumption
        · cases hc
      simp only [a.cl c hcm, hc]
      exact hx
    · cases hx
  · cases hx
theorem Heap.le.rd1 {h h' : Heap} (a : h.le h') {b o : Nat} {v : Value} (hx : h.rd1 b o = some v) : h'.rd1 b o = some v := by
  unfold Heap.rd1 at hx ⊢
  split at hx
  · rename_i cs hc; rw [a.cells hc]; exact hx
  · cases hx
theorem Heap.le.rd {h h' : Heap} (a : h.le h') {b o n : Nat} {v : List Value} (hx : h.rd b o n = some v) : h'.rd b o n = some v := by
  unfold Heap.rd at hx ⊢
  split at hx
  · rename_i cs hc; rw [a.cells hc]; exact hx
  · cases hx
theorem cells_top {h : Heap} {cs : List Value} : (h.new cs).cells h.n = some cs := by simp [Heap.cells, get_top]
theorem rd1_top {h : Heap} {cs : List Value} {o : Nat} {v : Value} (hv : cs[o]? = some v) : (h.new cs).rd1 h.n o = some v := by simp only [Heap.rd1, cells_top, hv]
theorem rd1_skip {h : Heap} {cs : List Value} {b o : Nat} {v : Value} (hv : h.rd1 b o = some v) : (h.new cs).rd1 b o = some v := ((Heap.le.refl h).new cs).rd1 hv
theorem rd_top {h : Heap} {cs : List Value} {o n : Nat} (hv : (o + n).ble cs.length = true) : (h.new cs).rd h.n o n = some ((cs.drop o).take n) := by
  simp only [Heap.rd, cells_top, if_pos (Nat.le_of_ble_eq_true hv)]
theorem rd_all {h : Heap} {cs : List Value} {n : Nat} (hv : cs.length = n) : (h.new cs).rd h.n 0 n = some cs := by
  subst hv
  rw [rd_top (by simp)]; simp
theorem rd_skip {h : Heap} {cs : List Value} {b o n : Nat} {v : List Value} (hv : h.rd b o n = some v) : (h.new cs).rd b o n = some v := ((Heap.le.refl h).new cs).rd hv
/-- A row just made, written whole. -/
theorem wr_top {lo : Nat} {h : Heap} {cs vs : List Value} (hlo : lo ≤ h.n) (hl : vs.length = cs.length) : (h.new cs).wr lo h.n 0 vs = some (h.new vs) := by
  rw [Heap.wr_def]
  rw [cells_top]
  simp only [Nat.zero_add, hl, Nat.le_refl, if_true, List.take_zero, List.nil_append, List.drop_length, List.append_nil]
  unfold Heap.put
  rw [if_neg (by omega), get_top]
  simp [Heap.setB, setS_eq, Heap.new]
/-- A slice of whole numbers, as it lies in memory. -/
def ints (k : IntKind) (h : Heap) (v : Value) (l : List Int) : Prop :=
  ∃ a c, v = .slice a l.length c ∧ (l.length : Int) < 4611686018427387904 ∧ ∀ i x, l[i]? = some x → ∃ b o e, a = some ⟨b, o, e⟩ ∧ h.rd1 b (o + i) = some (.int k x)
theorem ints.le {k : IntKind} {h h' : Heap} {v : Value} {l : List Int} (hl : ints k h v l) (hh : h.le h') : ints k h' v l := by
  obtain ⟨a, c, rfl, h1, h2⟩ := hl
  exact ⟨a, c, rfl, h1, fun i x hx => let ⟨b, o, e, p, q⟩ := h2 i x hx; ⟨b, o, e, p, hh.rd1 q⟩⟩
theorem wrap_i64 {n : Int} (h1 : -9223372036854775808 ≤ n) (h2 : n < 9223372036854775808) : IntKind.i64.wrap n = n := by
  unfold IntKind.wrap
  simp [IntKind.bits, IntKind.signed]
  omega
section
variable {F : Nat → Option HFn} {lo N : Nat} {A : Tab} {h : Heap}
theorem X_addI {x y : Operand} {a b : Int} {K : Value → Heap → Prop} (hx : evA A x = some (.int .i64 a)) (hy : evA A y = some (.int .i64 b)) (h1 : -9223372036854775808 ≤ a + b) (h2 : a + b < 9223372036854775808) (k : K (.int .i64 (a + b)) h) : X F lo (.bin .add x y) N A h K :=
  X_bin hx hy (v := .int .i64 (a + b)) (by
    have : bin .add (.int .i64 a) (.int .i64 b) = some (.int .i64 (IntKind.i64.wrap (a + b))) := rfl
    rw [this, wrap_i64 h1 h2]) k
theorem X_subI {x y : Operand} {a b : Int} {K : Value → Heap → Prop} (hx : evA A x = some (.int .i64 a)) (hy : evA A y = some (.int .i64 b)) (h1 : -9223372036854775808 ≤ a - b) (h2 : a - b < 9223372036854775808) (k : K (.int .i64 (a - b)) h) : X F lo (.bin .sub x y) N A h K :=
  X_bin hx hy (v := .int .i64 (a - b)) (by
    have : bin .sub (.int .i64 a) (.int .i64 b) = some (.int .i64 (IntKind.i64.wrap (a - b))) := rfl
    rw [this, wrap_i64 h1 h2]) k
end
end
end Go.Proofs.Ytlidnionbofkaaa.Hm
