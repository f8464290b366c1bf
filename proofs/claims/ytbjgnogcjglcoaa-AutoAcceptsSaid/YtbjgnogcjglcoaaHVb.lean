/- The rules of the logic over H whose memory is told by parts. -/
import Derived.Test.YtbjgnogcjglcoaaHVa
import Derived.Test.YtbjgnogcjglcoaaHZg
namespace Go.Proofs.Ytbjgnogcjglcoaa.Hm.V
open Go Go.Proofs.Ytbjgnogcjglcoaa.Hm
set_option linter.all false
set_option linter.unusedSimpArgs false
/-! ### the statements -/
def X (F : Nat → Option HFn) (lo : Nat) (op : HOp) (N : Nat) (A : Tab) (Z : Vw) (O : List Pt) (K : Value → Vw → List Pt → Prop) : Prop :=
  ∀ R σ h, Sl N A σ → Mem lo Z (O ++ R) h → ∃ n v h' Z' O', xoper (hcall F lo n) lo σ h op = some (v, h') ∧ Z.le Z' ∧ Mem lo Z' (O' ++ R) h' ∧ K v Z' O'
def S (F : Nat → Option HFn) (lo : Nat) (o : HOper) (N : Nat) (A : Tab) (Z : Vw) (O : List Pt) (K : Tab → Vw → List Pt → Prop) : Prop :=
  ∀ R σ h, Sl N A σ → Mem lo Z (O ++ R) h → ∃ n σ' h' A' Z' O', step1 (hcall F lo n) lo o σ h = some (σ', h') ∧ Sl N A' σ' ∧ Z.le Z' ∧ Mem lo Z' (O' ++ R) h' ∧ K A' Z' O'
def R (F : Nat → Option HFn) (lo : Nat) (ops : List HOper) (N : Nat) (A : Tab) (Z : Vw) (O : List Pt) (K : Tab → Vw → List Pt → Prop) : Prop :=
  ∀ R σ h, Sl N A σ → Mem lo Z (O ++ R) h → ∃ n σ' h' A' Z' O', rops (hcall F lo n) lo ops σ h = some (σ', h') ∧ Sl N A' σ' ∧ Z.le Z' ∧ Mem lo Z' (O' ++ R) h' ∧ K A' Z' O'
def D (F : Nat → Option HFn) (lo : Nat) (ops : List HOper) (sched : List (Nat × List Nat)) (N : Nat) (A : Tab) (Z : Vw) (O : List Pt) (K : Tab → Vw → List Pt → Prop) : Prop :=
  ∀ R σ h, Sl N A σ → Mem lo Z (O ++ R) h → ∃ n σ' h' A' Z' O', drws (hcall F lo n) lo ops sched σ h = some (σ', h') ∧ Sl N A' σ' ∧ Z.le Z' ∧ Mem lo Z' (O' ++ R) h' ∧ K A' Z' O'
def W (F : Nat → Option HFn) (lo : Nat) (c : HC) (N : Nat) (A : Tab) (Z : Vw) (O : List Pt) (Q : Out → Tab → Vw → List Pt → Prop) : Prop :=
  ∀ R σ h, Sl N A σ → Mem lo Z (O ++ R) h → ∃ n out σ' h' A' Z' O', run F lo n c σ h = some (out, σ', h') ∧ Sl N A' σ' ∧ Z.le Z' ∧ Mem lo Z' (O' ++ R) h' ∧ Q out A' Z' O'
/-- A call: what it is handed, and the parts that it may change. -/
def Call (F : Nat → Option HFn) (lo k : Nat) (vs : List Value) (Z : Vw) (O : List Pt) (Q : Value → Vw → List Pt → Prop) : Prop :=
  ∀ R h, Mem lo Z (O ++ R) h → ∃ n v h' Z' O', hcall F lo n k vs h = some (v, h') ∧ Z.le Z' ∧ Mem lo Z' (O' ++ R) h' ∧ Q v Z' O'
/-- What is said of memory changes; memory does not. -/
def Upd (lo : Nat) (Z : Vw) (O : List Pt) (K : Vw → List Pt → Prop) : Prop :=
  ∀ R h, Mem lo Z (O ++ R) h → ∃ Z' O', Z.le Z' ∧ Mem lo Z' (O' ++ R) h ∧ K Z' O'
/-- An operation that changes nothing. -/
def Rds (lo : Nat) (op : HOp) (N : Nat) (A : Tab) (Z : Vw) (O : List Pt) (v : Value) : Prop :=
  ∀ R σ h, Sl N A σ → Mem lo Z (O ++ R) h → xop lo σ h op = some (v, h)
def Rck (lo : Nat) (ops : List HOper) (N : Nat) (A : Tab) (Z : Vw) (O : List Pt) (js : List Nat) : Prop :=
  ∀ R σ h, Sl N A σ → Mem lo Z (O ++ R) h → recheck lo ops σ h js = true
/-- A slice, and what it holds: of whatever kind. -/
def Sees (Z : Vw) (O : List Pt) (e : Nat) (v : Value) (xs : List (List Value)) : Prop := ∀ lo R h, Mem lo Z (O ++ R) h → Reads h e v xs
section
variable {F : Nat → Option HFn} {lo N : Nat} {A : Tab} {Z : Vw} {O : List Pt}
theorem At.append {O g R : List Pt} {o : Pt} {f : Pt → List Pt} (k : At O o f g) : At (O ++ R) o (fun x => f x ++ R) (g ++ R) := by
  induction k with
  | here => exact .here
  | there k ih => exact .there ih
/-- To the front and back. -/
theorem At.mem {O g R : List Pt} {o : Pt} {f : Pt → List Pt} {lo : Nat} {Z : Vw} {h : Heap} (k : At O o f g) (m : Mem lo Z (O ++ R) h) : Mem lo Z (o :: (g ++ R)) h := m.perm (At.append k).perm.1
theorem At.back {O g R : List Pt} {o o' : Pt} {f : Pt → List Pt} {lo : Nat} {Z : Vw} {h : Heap} (k : At O o f g) (m : Mem lo Z (o' :: (g ++ R)) h) : Mem lo Z (f o' ++ R) h := m.perm ((At.append (R := R) k).perm.2 o').symm
theorem At.isin {O g R : List Pt} {o : Pt} {f : Pt → List Pt} (k : At O o f g) : o ∈ O ++ R := (At.append (R := R) k).perm.1.mem_iff.2 List.mem_cons_self
theorem Sees.fz {e : Nat} {v : Value} {xs : List (List Value)} (k : Fz Z e v xs) : Sees Z O e v xs := fun lo R h m => k.reads m
theorem Sees.arr {e c : Nat} {v : Value} {xs : List (List Value)} {f : Pt → List Pt} {g : List Pt} (k : At O (.arr v e c xs) f g) : Sees Z O e v xs := fun lo R h m => arr_reads m (At.isin k)
theorem Sees.gro {e : Nat} {v : Value} {xs : List (List Value)} {f : Pt → List Pt} {g : List Pt} (k : At O (.gro v e xs) f g) : Sees Z O e v xs := fun lo R h m => gro_reads m (At.isin k)
/-! ### calls, changes of what is said -/
theorem Call.mono {k : Nat} {vs : List Value} {Q Q' : Value → Vw → List Pt → Prop} (hc : Call F lo k vs Z O Q) (hq : ∀ v Z' O', Z.le Z' → Q v Z' O' → Q' v Z' O') : Call F lo k vs Z O Q' := by
  intro R h m
  obtain ⟨n, v, h', Z', O', k1, k2, k3, k4⟩ := hc R h m
  exact ⟨n, v, h', Z', O', k1, k2, k3, hq _ _ _ k2 k4⟩
theorem Upd.done {K : Vw → List Pt → Prop} (k : K Z O) : Upd lo Z O K := fun R h m => ⟨Z, O, .refl _, m, k⟩
theorem Upd.drop {o : Pt} {f : Pt → List Pt} {g : List Pt} {K : Vw → List Pt → Prop} (ha : At O o f g) (k : Upd lo Z g K) : Upd lo Z O K := fun R h m => k R h (At.mem ha m).drop
theorem Upd.nil {K : Vw → List Pt → Prop} (k : K Z []) : Upd lo Z O K := by
  intro R h m
  refine ⟨Z, [], .refl _, ?_, k⟩
  induction O with
  | nil => exact m
  | cons o O ih => exact ih m.drop
theorem Upd.arr {v : Value} {e c : Nat} {xs : List (List Value)} {f : Pt → List Pt} {g : List Pt} {K : Vw → List Pt → Prop} (ha : At O (.arr v e c xs) f g) (k : ∀ Z', Z.le Z' → Fz Z' e v xs → Upd lo Z' g K) : Upd lo Z O K := by
  intro R h m
  obtain ⟨Z1, k1, k2, k3⟩ := (At.mem ha m).freezeArr
  obtain ⟨Z2, O2, q1, q2, q3⟩ := k Z1 k1 k2 R h k3
  exact ⟨Z2, O2, k1.trans q1, q2, q3⟩
theorem Upd.gro {v : Value} {e : Nat} {xs : List (List Value)} {f : Pt → List Pt} {g : List Pt} {K : Vw → List Pt → Prop} (ha : At O (.gro v e xs) f g) (k : ∀ Z', Z.le Z' → Fz Z' e v xs → Upd lo Z' g K) : Upd lo Z O K := by
  intro R h m
  obtain ⟨Z1, k1, k2, k3⟩ := (At.mem ha m).freezeGro
  obtain ⟨Z2, O2, q1, q2, q3⟩ := k Z1 k1 k2 R h k3
  exact ⟨Z2, O2, k1.trans q1, q2, q3⟩
theorem Upd.gro0 {e : Nat} {K : Vw → List Pt → Prop} (he : 0 < e) (k : Upd lo Z (.gro (.slice none 0 0) e [] :: O) K) : Upd lo Z O K := fun R h m => k R h (m.gro0 he)
theorem Upd.perm {O' : List Pt} {K : Vw → List Pt → Prop} (hp : O.Perm O') (k : Upd lo Z O' K) : Upd lo Z O K := fun R h m => k R h (m.perm (hp.append_right R))
/-- What is wanted is there, in whatever order; the rest is forgotten. -/
inductive Has : List Pt → List Pt → Prop
  | nil {O : List Pt} : Has O []
  | box {O g L : List Pt} {f : Pt → List Pt} {b : Nat} {cs cs' : List Value} (ha : At O (.box b cs) f g) (hc : cs = cs') (k : Has g L) : Has O (.box b cs' :: L)
  | arr {O g L : List Pt} {f : Pt → List Pt} {v : Value} {e c : Nat} {xs xs' : List (List Value)} (ha : At O (.arr v e c xs) f g) (hc : xs = xs') (k : Has g L) : Has O (.arr v e c xs' :: L)
  | gro {O g L : List Pt} {f : Pt → List Pt} {v : Value} {e : Nat} {xs xs' : List (List Value)} (ha : At O (.gro v e xs) f g) (hc : xs = xs') (k : Has g L) : Has O (.gro v e xs' :: L)
  | map {O g L : List Pt} {f : Pt → List Pt} {v : Value} {es es' : List (Value × Value)} (ha : At O (.map v es) f g) (hc : es = es') (k : Has g L) : Has O (.map v es' :: L)
theorem Has.mem {O L : List Pt} (k : Has O L) : ∀ {lo : Nat} {Z : Vw} {R : List Pt} {h : Heap}, Mem lo Z (O ++ R) h → Mem lo Z (L ++ R) h := by
  induction k with
  | nil =>
    intro lo Z R h m
    rename_i O
    induction O with
    | nil => exact m
    | cons o O ih => exact ih m.drop
  | box ha hc k ih => subst hc; intro lo Z R h m; exact (ih (R := _ :: R) ((At.mem ha m).perm List.perm_middle.symm)).perm (by simp)
  | arr ha hc k ih => subst hc; intro lo Z R h m; exact (ih (R := _ :: R) ((At.mem ha m).perm List.perm_middle.symm)).perm (by simp)
  | gro ha hc k ih => subst hc; intro lo Z R h m; exact (ih (R := _ :: R) ((At.mem ha m).perm List.perm_middle.symm)).perm (by simp)
  | map ha hc k ih => subst hc; intro lo Z R h m; exact (ih (R := _ :: R) ((At.mem ha m).perm List.perm_middle.symm)).perm (by simp)
theorem Upd.has {L : List Pt} {K : Vw → List Pt → Prop} (hh : Has O L) (k : K Z L) : Upd lo Z O K := fun R h m => ⟨Z, L, .refl _, hh.mem m, k⟩
theorem W_upd {c : HC} {Q : Out → Tab → Vw → List Pt → Prop} (k : Upd lo Z O fun Z' O' => W F lo c N A Z' O' Q) : W F lo c N A Z O Q := by
  intro R σ h hs m
  obtain ⟨Z1, O1, k1, k2, k3⟩ := k R h m
  obtain ⟨n, out, σ', h', A', Z', O', q1, q2, q3, q4, q5⟩ := k3 R σ h hs k2
  exact ⟨n, out, σ', h', A', Z', O', q1, q2, k1.trans q3, q4, q5⟩
/-! ### regions -/
theorem R_nil {K : Tab → Vw → List Pt → Prop} (k : K A Z O) : R F lo [] N A Z O K := fun R σ h hs m => ⟨0, σ, h, A, Z, O, rfl, hs, .refl _, m, k⟩
theorem R_cons {o : HOper} {os : List HOper} {K : Tab → Vw → List Pt → Prop} (k : S F lo o N A Z O (fun A1 Z1 O1 => R F lo os N A1 Z1 O1 K)) : R F lo (o :: os) N A Z O K := by
  intro R σ h hs m
  obtain ⟨n, σ1, h1, A1, Z1, O1, k1, hs1, z1, m1, k2⟩ := k R σ h hs m
  obtain ⟨n2, σ2, h2, A2, Z2, O2, q1, hs2, z2, m2, q2⟩ := k2 R σ1 h1 hs1 m1
  refine ⟨max n n2, σ2, h2, A2, Z2, O2, ?_, hs2, z1.trans z2, m2, q2⟩
  simp only [rops, step1_le (hcall_le (Nat.le_max_left n n2)) k1]
  exact rops_le (hcall_le (Nat.le_max_right n n2)) q1
theorem D_nil {ops : List HOper} {K : Tab → Vw → List Pt → Prop} (k : K A Z O) : D F lo ops [] N A Z O K := fun R σ h hs m => ⟨0, σ, h, A, Z, O, rfl, hs, .refl _, m, k⟩
theorem D_consR {ops : List HOper} {i : Nat} {js : List Nat} {rest : List (Nat × List Nat)} {o : HOper} {K : Tab → Vw → List Pt → Prop} (ho : ops[i]? = some o) (k : S F lo o N A Z O (fun A1 Z1 O1 => Rck lo ops N A1 Z1 O1 js ∧ D F lo ops rest N A1 Z1 O1 K)) : D F lo ops ((i, js) :: rest) N A Z O K := by
  intro R σ h hs m
  obtain ⟨n, σ1, h1, A1, Z1, O1, k1, hs1, z1, m1, kr, k2⟩ := k R σ h hs m
  obtain ⟨n2, σ2, h2, A2, Z2, O2, q1, hs2, z2, m2, q2⟩ := k2 R σ1 h1 hs1 m1
  refine ⟨max n n2, σ2, h2, A2, Z2, O2, ?_, hs2, z1.trans z2, m2, q2⟩
  simp only [drws, ho, step1_le (hcall_le (Nat.le_max_left n n2)) k1, kr R σ1 h1 hs1 m1, if_true]
  exact drws_le (hcall_le (Nat.le_max_right n n2)) q1
theorem Rck_nil {ops : List HOper} : Rck lo ops N A Z O [] := fun R σ h hs m => rfl
theorem Rck_skip {ops : List HOper} {j : Nat} {js : List Nat} {o : HOper} {t : Nat} {b : Bool} (ho : ops[j]? = some o) (hg : o.guard = some (t, b)) (hl : look A t = some (.bool (!b))) (k : Rck lo ops N A Z O js) : Rck lo ops N A Z O (j :: js) := by
  intro R σ h hs m
  have : ((!b) == b) = false := by cases b <;> rfl
  simp only [recheck, ho, hg, wantedH, hs.2 t _ hl, this, Bool.false_eq_true, if_false, Bool.true_and]
  exact k R σ h hs m
theorem Rck_un {ops : List HOper} {j : Nat} {js : List Nat} {o : HOper} {t : Nat} {b : Bool} (ho : ops[j]? = some o) (hg : o.guard = some (t, b)) (hl : look A t = some undef) (k : Rck lo ops N A Z O js) : Rck lo ops N A Z O (j :: js) := by
  intro R σ h hs m
  have : wantedH σ (some (t, b)) = false := by simp only [wantedH, hs.2 t _ hl]; rfl
  simp only [recheck, ho, hg, this, Bool.false_eq_true, if_false, Bool.true_and]
  exact k R σ h hs m
theorem Rck_do {ops : List HOper} {j : Nat} {js : List Nat} {op : HOp} {d : Nat} {v : Value} (ho : ops[j]? = some ⟨some d, op, none⟩) (hd : look A d = some v) (hr : Rds lo op N A Z O v) (hv : sameV v v = true) (k : Rck lo ops N A Z O js) : Rck lo ops N A Z O (j :: js) := by
  intro R σ h hs m
  simp only [recheck, ho, wantedH, if_true, hr R σ h hs m, List.getD_eq_getElem?_getD, hs.2 d v hd, Option.getD_some, hv, Bool.true_and]
  exact k R σ h hs m
theorem Rck_if {ops : List HOper} {j : Nat} {js : List Nat} {op : HOp} {d t : Nat} {b : Bool} {v : Value} (ho : ops[j]? = some ⟨some d, op, some (t, b)⟩) (hl : look A t = some (.bool b)) (hd : look A d = some v) (hr : Rds lo op N A Z O v) (hv : sameV v v = true) (k : Rck lo ops N A Z O js) : Rck lo ops N A Z O (j :: js) := by
  intro R σ h hs m
  simp only [recheck, ho, wantedH, hs.2 t _ hl, BEq.rfl, if_true, hr R σ h hs m, List.getD_eq_getElem?_getD, hs.2 d v hd, Option.getD_some, hv, Bool.true_and]
  exact k R σ h hs m
/-! ### one step -/
theorem S_do {d : Nat} {op : HOp} {K : Tab → Vw → List Pt → Prop} (hd : Nat.blt d N = true) (k : X F lo op N A Z O (fun v Z1 O1 => K ((d, v) :: A) Z1 O1)) : S F lo ⟨some d, op, none⟩ N A Z O K := by
  intro R σ h hs m
  obtain ⟨n, v, h1, Z1, O1, k1, z1, m1, k2⟩ := k R σ h hs m
  exact ⟨n, putD σ (some d) v, h1, (d, v) :: A, Z1, O1, by simp only [step1, wantedH, if_true, k1], hs.put (d := some d) hd, z1, m1, k2⟩
theorem S_dn {op : HOp} {K : Tab → Vw → List Pt → Prop} (k : X F lo op N A Z O (fun v Z1 O1 => K A Z1 O1)) : S F lo ⟨none, op, none⟩ N A Z O K := by
  intro R σ h hs m
  obtain ⟨n, v, h1, Z1, O1, k1, z1, m1, k2⟩ := k R σ h hs m
  exact ⟨n, σ, h1, A, Z1, O1, by simp only [step1, wantedH, if_true, k1, putD], hs, z1, m1, k2⟩
theorem S_if {d : Nat} {op : HOp} {t : Nat} {b : Bool} {K : Tab → Vw → List Pt → Prop} (hl : look A t = some (.bool b)) (hd : Nat.blt d N = true) (k : X F lo op N A Z O (fun v Z1 O1 => K ((d, v) :: A) Z1 O1)) : S F lo ⟨some d, op, some (t, b)⟩ N A Z O K := by
  intro R σ h hs m
  obtain ⟨n, v, h1, Z1, O1, k1, z1, m1, k2⟩ := k R σ h hs m
  exact ⟨n, putD σ (some d) v, h1, (d, v) :: A, Z1, O1, by simp only [step1, wanted_tab hs hl, BEq.rfl, if_true, k1], hs.put (d := some d) hd, z1, m1, k2⟩
theorem S_ifn {op : HOp} {t : Nat} {b : Bool} {K : Tab → Vw → List Pt → Prop} (hl : look A t = some (.bool b)) (k : X F lo op N A Z O (fun v Z1 O1 => K A Z1 O1)) : S F lo ⟨none, op, some (t, b)⟩ N A Z O K := by
  intro R σ h hs m
  obtain ⟨n, v, h1, Z1, O1, k1, z1, m1, k2⟩ := k R σ h hs m
  exact ⟨n, σ, h1, A, Z1, O1, by simp only [step1, wanted_tab hs hl, BEq.rfl, if_true, k1, putD], hs, z1, m1, k2⟩
theorem S_no {d : Nat} {op : HOp} {t : Nat} {b : Bool} {K : Tab → Vw → List Pt → Prop} (hl : look A t = some (.bool (!b))) (hd : Nat.blt d N = true) (k : K ((d, undef) :: A) Z O) : S F lo ⟨some d, op, some (t, b)⟩ N A Z O K := by
  intro R σ h hs m
  have : ((!b) == b) = false := by cases b <;> rfl
  exact ⟨0, putD σ (some d) undef, h, (d, undef) :: A, Z, O, by simp only [step1, wanted_tab hs hl, this, Bool.false_eq_true, if_false], hs.put (d := some d) hd, .refl _, m, k⟩
theorem S_non {op : HOp} {t : Nat} {b : Bool} {K : Tab → Vw → List Pt → Prop} (hl : look A t = some (.bool (!b))) (k : K A Z O) : S F lo ⟨none, op, some (t, b)⟩ N A Z O K := by
  intro R σ h hs m
  have : ((!b) == b) = false := by cases b <;> rfl
  exact ⟨0, σ, h, A, Z, O, by simp only [step1, wanted_tab hs hl, this, Bool.false_eq_true, if_false, putD], hs, .refl _, m, k⟩
theorem S_un {d : Nat} {op : HOp} {t : Nat} {b : Bool} {K : Tab → Vw → List Pt → Prop} (hl : look A t = some undef) (hd : Nat.blt d N = true) (k : K ((d, undef) :: A) Z O) : S F lo ⟨some d, op, some (t, b)⟩ N A Z O K := by
  intro R σ h hs m
  have : wantedH σ (some (t, b)) = false := by simp only [wantedH, hs.2 t _ hl]; rfl
  exact ⟨0, putD σ (some d) undef, h, (d, undef) :: A, Z, O, by simp only [step1, this, Bool.false_eq_true, if_false], hs.put (d := some d) hd, .refl _, m, k⟩
theorem S_unn {op : HOp} {t : Nat} {b : Bool} {K : Tab → Vw → List Pt → Prop} (hl : look A t = some undef) (k : K A Z O) : S F lo ⟨none, op, some (t, b)⟩ N A Z O K := by
  intro R σ h hs m
  have : wantedH σ (some (t, b)) = false := by simp only [wantedH, hs.2 t _ hl]; rfl
  exact ⟨0, σ, h, A, Z, O, by simp only [step1, this, Bool.false_eq_true, if_false, putD], hs, .refl _, m, k⟩
/-! ### code -/
def thenQ (K : Tab → Vw → List Pt → Prop) (Q : Out → Tab → Vw → List Pt → Prop) : Out → Tab → Vw → List Pt → Prop
  | .nrm, A, Z, O => K A Z O
  | o, A, Z, O => Q o A Z O
def blockQ (id : Nat) (Q : Out → Tab → Vw → List Pt → Prop) : Out → Tab → Vw → List Pt → Prop
  | .ext j, A, Z, O => if j = id then Q .nrm A Z O else Q (.ext j) A Z O
  | o, A, Z, O => Q o A Z O
section
variable {Q : Out → Tab → Vw → List Pt → Prop}
theorem W_skip (k : Q .nrm A Z O) : W F lo .skip N A Z O Q := fun R σ h hs m => ⟨1, .nrm, σ, h, A, Z, O, rfl, hs, .refl _, m, k⟩
theorem W_ret (k : Q .ret A Z O) : W F lo .ret N A Z O Q := fun R σ h hs m => ⟨1, .ret, σ, h, A, Z, O, rfl, hs, .refl _, m, k⟩
theorem W_exit {id : Nat} (k : Q (.ext id) A Z O) : W F lo (.exit id) N A Z O Q := fun R σ h hs m => ⟨1, .ext id, σ, h, A, Z, O, rfl, hs, .refl _, m, k⟩
theorem W_seq {a b : HC} (k : W F lo a N A Z O (thenQ (fun A1 Z1 O1 => W F lo b N A1 Z1 O1 Q) Q)) : W F lo (.seq a b) N A Z O Q := by
  intro R σ h hs m
  obtain ⟨n, out, σ1, h1, A1, Z1, O1, k1, hs1, z1, m1, k2⟩ := k R σ h hs m
  cases out with
  | nrm =>
    obtain ⟨n2, out2, σ2, h2, A2, Z2, O2, q1, hs2, z2, m2, q2⟩ := k2 R σ1 h1 hs1 m1
    refine ⟨max n n2 + 1, out2, σ2, h2, A2, Z2, O2, ?_, hs2, z1.trans z2, m2, q2⟩
    simp only [run, run_le n (max n n2) (Nat.le_max_left _ _) _ _ _ _ k1]
    exact run_le n2 (max n n2) (Nat.le_max_right _ _) _ _ _ _ q1
  | ret => exact ⟨n + 1, .ret, σ1, h1, A1, Z1, O1, by simp only [run, k1], hs1, z1, m1, k2⟩
  | ext id => exact ⟨n + 1, .ext id, σ1, h1, A1, Z1, O1, by simp only [run, k1], hs1, z1, m1, k2⟩
theorem W_condT {c : Operand} {a b : HC} (hc : evA A c = some (.bool true)) (k : W F lo a N A Z O Q) : W F lo (.cond c a b) N A Z O Q := by
  intro R σ h hs m
  obtain ⟨n, out, σ1, h1, A1, Z1, O1, k1, k2⟩ := k R σ h hs m
  exact ⟨n + 1, out, σ1, h1, A1, Z1, O1, by simp only [run, evA_ok hs hc, k1], k2⟩
theorem W_condF {c : Operand} {a b : HC} (hc : evA A c = some (.bool false)) (k : W F lo b N A Z O Q) : W F lo (.cond c a b) N A Z O Q := by
  intro R σ h hs m
  obtain ⟨n, out, σ1, h1, A1, Z1, O1, k1, k2⟩ := k R σ h hs m
  exact ⟨n + 1, out, σ1, h1, A1, Z1, O1, by simp only [run, evA_ok hs hc, k1], k2⟩
theorem W_cond {c : Operand} {t : Bool} {a b : HC} (hc : evA A c = some (.bool t)) (ka : t = true → W F lo a N A Z O Q) (kb : t = false → W F lo b N A Z O Q) : W F lo (.cond c a b) N A Z O Q := by
  cases t with
  | true => exact W_condT hc (ka rfl)
  | false => exact W_condF hc (kb rfl)
theorem W_block {id : Nat} {c : HC} (k : W F lo c N A Z O (blockQ id Q)) : W F lo (.block id c) N A Z O Q := by
  intro R σ h hs m
  obtain ⟨n, out, σ1, h1, A1, Z1, O1, k1, hs1, z1, m1, k2⟩ := k R σ h hs m
  cases out with
  | nrm => exact ⟨n + 1, .nrm, σ1, h1, A1, Z1, O1, by simp only [run, k1], hs1, z1, m1, k2⟩
  | ret => exact ⟨n + 1, .ret, σ1, h1, A1, Z1, O1, by simp only [run, k1], hs1, z1, m1, k2⟩
  | ext j =>
    by_cases hj : j = id
    · simp only [blockQ, if_pos hj] at k2
      exact ⟨n + 1, .nrm, σ1, h1, A1, Z1, O1, by simp only [run, k1, if_pos hj], hs1, z1, m1, k2⟩
    · simp only [blockQ, if_neg hj] at k2
      exact ⟨n + 1, .ext j, σ1, h1, A1, Z1, O1, by simp only [run, k1, if_neg hj], hs1, z1, m1, k2⟩
theorem W_rgn {ops : List HOper} (k : R F lo ops N A Z O (fun A1 Z1 O1 => Q .nrm A1 Z1 O1)) : W F lo (.rgn ops) N A Z O Q := by
  intro R σ h hs m
  obtain ⟨n, σ1, h1, A1, Z1, O1, k1, k2⟩ := k R σ h hs m
  refine ⟨n + 1, .nrm, σ1, h1, A1, Z1, O1, ?_, k2⟩
  simp only [run]
  show Option.map _ (rops (hcall F lo n) lo ops σ h) = _
  rw [k1]; rfl
theorem W_drw {ops : List HOper} {sched : List (Nat × List Nat)} (k : D F lo ops sched N A Z O (fun A1 Z1 O1 => Q .nrm A1 Z1 O1)) : W F lo (.drw ops sched) N A Z O Q := by
  intro R σ h hs m
  obtain ⟨n, σ1, h1, A1, Z1, O1, k1, k2⟩ := k R σ h hs m
  refine ⟨n + 1, .nrm, σ1, h1, A1, Z1, O1, ?_, k2⟩
  simp only [run]
  show Option.map _ (drws (hcall F lo n) lo ops sched σ h) = _
  rw [k1]; rfl
theorem W_mono {c : HC} {Q' : Out → Tab → Vw → List Pt → Prop} (k : W F lo c N A Z O Q) (hq : ∀ o A' Z' O', Z.le Z' → Q o A' Z' O' → Q' o A' Z' O') : W F lo c N A Z O Q' := by
  intro R σ h hs m
  obtain ⟨n, out, σ1, h1, A1, Z1, O1, k1, hs1, z1, m1, k2⟩ := k R σ h hs m
  exact ⟨n, out, σ1, h1, A1, Z1, O1, k1, hs1, z1, m1, hq _ _ _ _ z1 k2⟩
theorem thenQ_nrm {K : Tab → Vw → List Pt → Prop} (k : K A Z O) : thenQ K Q .nrm A Z O := k
theorem thenQ_ret {K : Tab → Vw → List Pt → Prop} (k : Q .ret A Z O) : thenQ K Q .ret A Z O := k
theorem thenQ_ext {K : Tab → Vw → List Pt → Prop} {id : Nat} (k : Q (.ext id) A Z O) : thenQ K Q (.ext id) A Z O := k
theorem blockQ_nrm {id : Nat} (k : Q .nrm A Z O) : blockQ id Q .nrm A Z O := k
theorem blockQ_ret {id : Nat} (k : Q .ret A Z O) : blockQ id Q .ret A Z O := k
theorem blockQ_ext {id : Nat} (k : Q .nrm A Z O) : blockQ id Q (.ext id) A Z O := by simp only [blockQ, if_true]; exact k
theorem blockQ_far {id j : Nat} (hj : Nat.beq j id = false) (k : Q (.ext j) A Z O) : blockQ id Q (.ext j) A Z O := by
  have : j ≠ id := fun e => by subst e; simp at hj
  simp only [blockQ, if_neg this]; exact k
end
/-! ### what a piece of code may write to -/
def wrote : HC → List Nat
  | .seq a b => wrote a ++ wrote b
  | .cond _ a b => wrote a ++ wrote b
  | .block _ c | .loop c => wrote c
  | .rgn ops => ops.filterMap (·.dst)
  | .drw ops _ => ops.filterMap (·.dst)
  | _ => []
theorem putD_other {σ : List Value} {d : Option Nat} {v : Value} {t : Nat} (h : d ≠ some t) : (putD σ d v)[t]? = σ[t]? := by
  cases d with
  | none => rfl
  | some d =>
    have : d ≠ t := fun e => h (by rw [e])
    simp only [putD, List.getElem?_set_ne this]
theorem step1_keeps {c : CallF} {o : HOper} {σ σ' : List Value} {h h' : Heap} {t : Nat} (hx : step1 c lo o σ h = some (σ', h')) (ht : o.dst ≠ some t) : σ'[t]? = σ[t]? := by
  unfold step1 at hx
  split at hx
  · split at hx
    · cases hx; exact putD_other ht
    · cases hx
  · cases hx; exact putD_other ht
theorem rops_keeps {c : CallF} {t : Nat} : ∀ {ops : List HOper} {σ σ' : List Value} {h h' : Heap}, rops c lo ops σ h = some (σ', h') → t ∉ ops.filterMap (·.dst) → σ'[t]? = σ[t]?
  | [], σ, σ', h, h', hx, ht => by cases hx; rfl
  | o :: os, σ, σ', h, h', hx, ht => by
    simp only [rops] at hx
    split at hx
    · rename_i σ1 h1 e
      have h1 : o.dst ≠ some t := fun e => ht (List.mem_filterMap.2 ⟨o, by simp, e⟩)
      rw [rops_keeps hx (fun hm => ht (by obtain ⟨x, hx, e⟩ := List.mem_filterMap.1 hm; exact List.mem_filterMap.2 ⟨x, by simp [hx], e⟩)), step1_keeps e h1]
    · cases hx
theorem drws_keeps {c : CallF} {ops : List HOper} {t : Nat} (ht : t ∉ ops.filterMap (·.dst)) : ∀ {sched : List (Nat × List Nat)} {σ σ' : List Value} {h h' : Heap}, drws c lo ops sched σ h = some (σ', h') → σ'[t]? = σ[t]?
  | [], σ, σ', h, h', hx => by cases hx; rfl
  | (i, js) :: rest, σ, σ', h, h', hx => by
    simp only [drws] at hx
    split at hx
    · rename_i o ho
      split at hx
      · rename_i σ1 h1 e
        split at hx
        · have h1 : o.dst ≠ some t := fun e => ht (List.mem_filterMap.2 ⟨o, List.mem_of_getElem? ho, e⟩)
          rw [drws_keeps ht hx, step1_keeps e h1]
        · cases hx
      · cases hx
    · cases hx
theorem run_keeps {t : Nat} : ∀ (n : Nat) (c : HC) (σ : List Value) (h : Heap) (out : Out) (σ' : List Value) (h' : Heap), run F lo n c σ h = some (out, σ', h') → t ∉ wrote c → σ'[t]? = σ[t]? := by
  intro n
  induction n with
  | zero => intro c σ h out σ' h' hr; cases hr
  | succ n ih =>
    intro c σ h out σ' h' hr ht
    cases c with
    | skip => simp only [run] at hr; cases hr; rfl
    | ret => simp only [run] at hr; cases hr; rfl
    | exit id => simp only [run] at hr; cases hr; rfl
    | seq a b =>
      simp only [wrote, List.mem_append, not_or] at ht
      simp only [run] at hr
      split at hr
      · rename_i σ1 h1 e
        rw [ih _ _ _ _ _ _ hr ht.2, ih _ _ _ _ _ _ e ht.1]
      · exact ih _ _ _ _ _ _ hr ht.1
    | cond c a b =>
      simp only [wrote, List.mem_append, not_or] at ht
      simp only [run] at hr
      split at hr
      · exact ih _ _ _ _ _ _ hr ht.1
      · exact ih _ _ _ _ _ _ hr ht.2
      · cases hr
    | block id c =>
      simp only [wrote] at ht
      simp only [run] at hr
      split at hr
      · rename_i id' σ1 h1 e
        split at hr
        · cases hr; exact ih _ _ _ _ _ _ e ht
        · cases hr; exact ih _ _ _ _ _ _ e ht
      · exact ih _ _ _ _ _ _ hr ht
    | loop c =>
      have ht' := ht
      simp only [wrote] at ht
      simp only [run] at hr
      split at hr
      · rename_i σ1 h1 e
        rw [ih _ _ _ _ _ _ hr ht', ih _ _ _ _ _ _ e ht]
      · exact ih _ _ _ _ _ _ hr ht
    | rgn ops =>
      simp only [run] at hr
      obtain ⟨p, hp, he⟩ := Option.map_eq_some_iff.1 hr
      cases he
      exact rops_keeps (c := hcall F lo n) hp ht
    | drw ops sched =>
      simp only [run] at hr
      obtain ⟨p, hp, he⟩ := Option.map_eq_some_iff.1 hr
      cases he
      exact drws_keeps (c := hcall F lo n) ht hp
/-- What is known of the slots that are not written. -/
def keepT (dead : List Nat) : Tab → Tab
  | [] => []
  | (i, v) :: A => match dead.any (Nat.beq i) with
    | true => keepT dead A
    | false => (i, v) :: keepT dead A
theorem keepT_look {dead : List Nat} : ∀ {A : Tab} {i : Nat} {v : Value}, look (keepT dead A) i = some v → look A i = some v ∧ i ∉ dead
  | [], i, v, h => by cases h
  | (j, w) :: A, i, v, h => by
    simp only [keepT] at h
    split at h
    · rename_i hd
      obtain ⟨h1, h2⟩ := keepT_look h
      refine ⟨?_, h2⟩
      simp only [look]
      split
      · rename_i hb
        have : j = i := by simpa using hb
        subst this
        exact absurd (by simpa using hd) h2
      · exact h1
    · rename_i hd
      simp only [look] at h ⊢
      split at h
      · rename_i hb
        have hji : j = i := by simpa using hb
        subst hji
        exact ⟨h, fun hm => by simp at hd; exact hd j hm rfl⟩
      · exact keepT_look h
theorem look_app {A B : Tab} {i : Nat} {v : Value} : look (A ++ B) i = some v → look A i = some v ∨ look B i = some v := by
  induction A with
  | nil => exact fun h => .inr h
  | cons p A ih =>
    obtain ⟨j, w⟩ := p
    intro h
    simp only [List.cons_append, look] at h ⊢
    split at h
    · exact .inl h
    · exact ih h
/-- A loop. What changes from round to round: slots (T), parts (L); what is known besides (P); a measure that falls. Slots that the loop does not write stay known. -/
theorem W_loop {ι : Type} {c : HC} {Q : Out → Tab → Vw → List Pt → Prop} (T : ι → Tab) (L : ι → List Pt) (P : ι → Vw → Prop) (μ : ι → Nat) (i0 : ι) (hT : SubT (T i0) A) (h0 : Upd lo Z O fun Z' O' => P i0 Z' ∧ Has O' (L i0))
    (round : ∀ i Z', Z.le Z' → P i Z' → W F lo c N (T i ++ keepT (wrote c) A) Z' (L i) (thenQ (fun A1 Z1 O1 => Upd lo Z1 O1 fun Z2 O2 => ∃ j, μ j < μ i ∧ P j Z2 ∧ SubT (T j) A1 ∧ Has O2 (L j)) Q)) : W F lo (.loop c) N A Z O Q := by
  have key : ∀ m i Z', Z.le Z' → μ i = m → P i Z' → ∀ R σ h, Sl N (T i) σ → Sl N (keepT (wrote c) A) σ → Mem lo Z' (L i ++ R) h →
      ∃ n out σ' h' A' Z'' O', run F lo n (.loop c) σ h = some (out, σ', h') ∧ Sl N A' σ' ∧ Z'.le Z'' ∧ Mem lo Z'' (O' ++ R) h' ∧ Q out A' Z'' O' := by
    intro m
    induction m using Nat.strongRecOn with
    | _ m ih =>
      intro i Z' hz hm hi R σ h hs hk hmem
      obtain ⟨n, out, σ1, h1, A1, Z1, O1, k1, hs1, z1, m1, k2⟩ := round i Z' hz hi R σ h ⟨hs.1, fun t v hv => by
        rcases look_app hv with h3 | h3
        · exact hs.2 t v h3
        · exact hk.2 t v h3⟩ hmem
      cases out with
      | nrm =>
        obtain ⟨Z2, O2, z2, m2, j, hlt, hj, hsub, hhas⟩ := k2 R h1 m1
        have hk2 : Sl N (keepT (wrote c) A) σ1 := ⟨hs1.1, fun t v hv => by
          rw [run_keeps n c σ h .nrm σ1 h1 k1 (keepT_look hv).2]
          exact hk.2 t v hv⟩
        obtain ⟨n', out2, σ2, h2, A2, Z3, O3, q1, q2, q3, q4, q5⟩ := ih (μ j) (hm ▸ hlt) j Z2 (hz.trans (z1.trans z2)) rfl hj R σ1 h1 (hs1.sub hsub) hk2 (hhas.mem m2)
        refine ⟨max n n' + 1, out2, σ2, h2, A2, Z3, O3, ?_, q2, z1.trans (z2.trans q3), q4, q5⟩
        simp only [run, run_le n (max n n') (Nat.le_max_left _ _) _ _ _ _ k1]
        exact run_le n' (max n n') (Nat.le_max_right _ _) _ _ _ _ q1
      | ret => exact ⟨n + 1, .ret, σ1, h1, A1, Z1, O1, by simp only [run, k1], hs1, z1, m1, k2⟩
      | ext id => exact ⟨n + 1, .ext id, σ1, h1, A1, Z1, O1, by simp only [run, k1], hs1, z1, m1, k2⟩
  intro R σ h hs m
  obtain ⟨Z1, O1, z1, m1, p1, hh⟩ := h0 R h m
  obtain ⟨n, out, σ', h', A', Z', O', q1, q2, q3, q4⟩ := key _ i0 Z1 z1 rfl p1 R σ h (hs.sub hT) ⟨hs.1, fun t v hv => hs.2 t v (keepT_look hv).1⟩ (hh.mem m1)
  exact ⟨n, out, σ', h', A', Z', O', q1, q2, z1.trans q3, q4⟩
/-! ### the results -/
def Res (A : Tab) (Z : Vw) (O : List Pt) (rs : List (Nat × Option (Option Nat))) (l : List Value) : Prop :=
  ∀ N lo R σ h, Sl N A σ → Mem lo Z (O ++ R) h → ress h σ rs = some l
theorem Res.nil : Res A Z O [] [] := fun N lo R σ h hs m => rfl
theorem getD_of_look {σ : List Value} (hs : Sl N A σ) {t : Nat} {w : Value} (hw : look A t = some w) : σ.getD t undef = w := by rw [List.getD_eq_getElem?_getD, hs.2 t w hw]; rfl
theorem Res.tmp {t : Nat} {rs : List (Nat × Option (Option Nat))} {v : Value} {l : List Value} (hl : look A t = some v) (k : Res A Z O rs l) : Res A Z O ((t, none) :: rs) (v :: l) := by
  intro N lo R σ h hs m
  simp only [ress, resOf, getD_of_look hs hl, k N lo R σ h hs m]
theorem Res.cell {t b o : Nat} {rs : List (Nat × Option (Option Nat))} {v : Value} {l cs : List Value} {f : Pt → List Pt} {g : List Pt} (hl : look A t = some (.pointer (some ⟨b, o, none⟩))) (ha : At O (.box b cs) f g) (hv : cs[o]? = some v) (k : Res A Z O rs l) : Res A Z O ((t, some none) :: rs) (v :: l) := by
  intro N lo R σ h hs m
  have hb := (m.own _ (At.isin ha)).2
  simp only [ress, resOf, getD_of_look hs hl, k N lo R σ h hs m, rd1_of (cells_row hb) hv]
theorem Res.agg {t b n : Nat} {rs : List (Nat × Option (Option Nat))} {l cs : List Value} {f : Pt → List Pt} {g : List Pt} (hl : look A t = some (.pointer (some ⟨b, 0, none⟩))) (ha : At O (.box b cs) f g) (hn : cs.length = n) (k : Res A Z O rs l) : Res A Z O ((t, some (some n)) :: rs) (.agg ⟨cs⟩ :: l) := by
  intro N lo R σ h hs m
  have hb := (m.own _ (At.isin ha)).2
  subst hn
  have := rd_of (o := 0) (n := cs.length) (cells_row hb) (by omega)
  rw [List.drop_zero, List.take_length] at this
  simp only [ress, resOf, getD_of_look hs hl, k N lo R σ h hs m, this, Option.map_some]
/-- What a function leaves. -/
def fnQ (lo : Nat) (rs : List (Nat × Option (Option Nat))) (Q : Value → Vw → List Pt → Prop) : Out → Tab → Vw → List Pt → Prop := fun out A Z O => (∀ id, out ≠ .ext id) ∧ ∃ l, Res A Z O rs l ∧ Upd lo Z O fun Z' O' => Q (tupled l) Z' O'
theorem fn_ret {rs : List (Nat × Option (Option Nat))} {Q : Value → Vw → List Pt → Prop} {l : List Value} (hr : Res A Z O rs l) (k : Upd lo Z O fun Z' O' => Q (tupled l) Z' O') : fnQ lo rs Q .ret A Z O := ⟨fun id e => (by cases e), l, hr, k⟩
theorem fn_nrm {rs : List (Nat × Option (Option Nat))} {Q : Value → Vw → List Pt → Prop} {l : List Value} (hr : Res A Z O rs l) (k : Upd lo Z O fun Z' O' => Q (tupled l) Z' O') : fnQ lo rs Q .nrm A Z O := ⟨fun id e => (by cases e), l, hr, k⟩
theorem Fn {k : Nat} {fn : HFn} {vs : List Value} {Q : Value → Vw → List Pt → Prop} (hF : F k = some fn) (hp : fn.prim = none) (hl : Nat.ble vs.length fn.ntmps = true) (hb : W F lo fn.body fn.ntmps (argsA 0 vs) Z O (fnQ lo fn.res Q)) : Call F lo k vs Z O Q := by
  intro R h m
  obtain ⟨n, out, σ1, h1, A1, Z1, O1, k1, hs1, z1, m1, hne, l, k2, k3⟩ := hb R _ h (Sl.args (Nat.le_of_ble_eq_true hl)) m
  obtain ⟨Z2, O2, z2, m2, k4⟩ := k3 R h1 m1
  refine ⟨n, tupled l, h1, Z2, O2, ?_, z1.trans z2, m2, k4⟩
  have hr := k2 _ _ _ _ _ hs1 m1
  unfold hcall
  simp only [hF, hp, k1]
  cases out with
  | nrm => simp only [hr, Option.map_some]
  | ret => simp only [hr, Option.map_some]
  | ext id => exact absurd rfl (hne id)
/-- A function without parameters that is known to give true. -/
theorem Call_true {k : Nat} {Q : Value → Vw → List Pt → Prop} (hF : F k = some fnTrue) (kk : Q (.bool true) Z O) : Call F lo k [] Z O Q := fun R h m => ⟨0, .bool true, h, Z, O, by unfold hcall; simp only [hF, fnTrue]; rfl, .refl _, m, kk⟩
end
end Go.Proofs.Ytbjgnogcjglcoaa.Hm.V
