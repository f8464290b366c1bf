/- The logic with parts: what a rule asks of memory is found by the search for instances. -/
import Derived.Test.YtbjgnogcjglcoaaHVd
namespace Go.Proofs.Ytbjgnogcjglcoaa.Hm.V
open Go Go.Proofs.Ytbjgnogcjglcoaa.Hm
set_option linter.all false
set_option linter.unusedSectionVars false
/-! ### where a part stands -/
class AtB (O : List Pt) (b : Nat) (cs : outParam (List Value)) (f : outParam (Pt → List Pt)) (g : outParam (List Pt)) : Prop where
  out : At O (.box b cs) f g
class AtA (O : List Pt) (v : Value) (e c : outParam Nat) (xs : outParam (List (List Value))) (f : outParam (Pt → List Pt)) (g : outParam (List Pt)) : Prop where
  out : At O (.arr v e c xs) f g
class AtG (O : List Pt) (v : Value) (e : outParam Nat) (xs : outParam (List (List Value))) (f : outParam (Pt → List Pt)) (g : outParam (List Pt)) : Prop where
  out : At O (.gro v e xs) f g
class AtM (O : List Pt) (v : Value) (es : outParam (List (Value × Value))) (f : outParam (Pt → List Pt)) (g : outParam (List Pt)) : Prop where
  out : At O (.map v es) f g
section
variable {S : List Pt} {f : Pt → List Pt} {g : List Pt} {x : Pt} {b e c : Nat} {v : Value} {cs : List Value} {xs : List (List Value)} {es : List (Value × Value)}
instance AtB.here : AtB (.box b cs :: S) b cs (fun x => x :: S) S := ⟨.here⟩
instance AtB.there [k : AtB S b cs f g] : AtB (x :: S) b cs (fun y => x :: f y) (x :: g) := ⟨.there k.out⟩
instance AtA.here : AtA (.arr v e c xs :: S) v e c xs (fun x => x :: S) S := ⟨.here⟩
instance AtA.there [k : AtA S v e c xs f g] : AtA (x :: S) v e c xs (fun y => x :: f y) (x :: g) := ⟨.there k.out⟩
instance AtG.here : AtG (.gro v e xs :: S) v e xs (fun x => x :: S) S := ⟨.here⟩
instance AtG.there [k : AtG S v e xs f g] : AtG (x :: S) v e xs (fun y => x :: f y) (x :: g) := ⟨.there k.out⟩
instance AtM.here : AtM (.map v es :: S) v es (fun x => x :: S) S := ⟨.here⟩
instance AtM.there [k : AtM S v es f g] : AtM (x :: S) v es (fun y => x :: f y) (x :: g) := ⟨.there k.out⟩
end
/-! ### an index as a natural number -/
class TN (j : Int) (k : outParam Nat) : Prop where
  out : j.toNat = k
instance TN.cast {i : Nat} : TN (i : Int) i := ⟨Int.toNat_natCast i⟩
instance TN.pred {i : Nat} : TN ((i : Int) - 1) (i - 1) := ⟨toNat_pred i⟩
instance TN.succ {i : Nat} : TN ((i : Int) + 1) (i + 1) := ⟨toNat_succ i⟩
instance TN.div {i c : Nat} : TN ((i : Int) / (no_index (OfNat.ofNat c))) (i / (OfNat.ofNat c : Nat)) := ⟨by show ((i : Int) / (c : Int)).toNat = i / c; rw [← Int.natCast_ediv]; rfl⟩
instance TN.mod {i c : Nat} : TN ((i : Int) % (no_index (OfNat.ofNat c))) (i % (OfNat.ofNat c : Nat)) := ⟨by show ((i : Int) % (c : Int)).toNat = i % c; rw [← Int.natCast_emod]; rfl⟩
instance TN.lit {n : Nat} : TN (no_index (OfNat.ofNat n)) (OfNat.ofNat n : Nat) := ⟨rfl⟩
instance (priority := low) TN.any {j : Int} : TN j j.toNat := ⟨rfl⟩
/-! ### what stands goes on standing -/
class ZL (Z : Vw) (Z' : semiOutParam Vw) : Prop where
  le : Z.le Z'
class ZC (Z Z' : Vw) : Prop where
  le : Z.le Z'
instance ZC.refl {Z : Vw} : ZC Z Z := ⟨.refl _⟩
instance (priority := low) ZC.step {Z Z1 Z' : Vw} [a : ZL Z Z1] [b : ZC Z1 Z'] : ZC Z Z' := ⟨a.le.trans b.le⟩
/-- A slice that stands, said of a later view. -/
class FzL (Z : Vw) (e : outParam Nat) (v : Value) (xs : outParam (List (List Value))) : Prop where
  out : Fz Z e v xs
instance FzL.mk' {Z Z0 : Vw} {v : Value} {e : Nat} {xs : List (List Value)} [k : Fz Z0 e v xs] [z : ZC Z0 Z] : FzL Z e v xs := ⟨k.le z.le⟩
abbrev IntsL (Z : Vw) (v : Value) (l : List Int) : Prop := FzL Z 1 v (l.map cI)
/-- A slice, and what it holds. -/
class Se (Z : Vw) (O : List Pt) (v : Value) (e : outParam Nat) (xs : outParam (List (List Value))) : Prop where
  out : Sees Z O e v xs
section
variable {Z Z0 : Vw} {O : List Pt} {v : Value} {e c : Nat} {xs : List (List Value)} {f : Pt → List Pt} {g : List Pt}
instance Se.arr [k : AtA O v e c xs f g] : Se Z O v e xs := ⟨.arr k.out⟩
instance Se.gro [k : AtG O v e xs f g] : Se Z O v e xs := ⟨.gro k.out⟩
instance Se.fz [k : Fz Z0 e v xs] [z : ZC Z0 Z] : Se Z O v e xs := ⟨.fz (k.le z.le)⟩
end
/-- A value that a cell may hold. -/
class Ce (Z : Vw) (O : List Pt) (v : Value) (vs : outParam (List Value)) : Prop where
  out : Cel Z O v vs
section
variable {Z : Vw} {O : List Pt}
instance Ce.int {k : IntKind} {n : Int} : Ce Z O (.int k n) [.int k n] := ⟨.val rfl⟩
instance Ce.bool {b : Bool} : Ce Z O (.bool b) [.bool b] := ⟨.val rfl⟩
instance Ce.str {s : ByteArray} : Ce Z O (.string s) [.string s] := ⟨.val rfl⟩
instance Ce.ptr {a : Option Addr} : Ce Z O (.pointer a) [.pointer a] := ⟨.val rfl⟩
instance Ce.sl {a : Option Addr} {n c : Nat} : Ce Z O (.slice a n c) [.slice a n c] := ⟨.val rfl⟩
instance Ce.mp {b : Option Nat} : Ce Z O (.map b) [.map b] := ⟨.val rfl⟩
instance Ce.fn {f : Go.Fn} {a c : Array Value} : Ce Z O (.func f a c) [.func f a c] := ⟨.val rfl⟩
instance Ce.nilf : Ce Z O .nilFunc [.nilFunc] := ⟨.val rfl⟩
instance Ce.agg {cs : List Value} : Ce Z O (.agg ⟨cs⟩) cs := ⟨.val rfl⟩
instance (priority := low) Ce.se {v : Value} {e : Nat} {xs : List (List Value)} [k : Se Z O v e xs] : Ce Z O v [v] := ⟨.sees k.out⟩
instance (priority := low) Ce.map {v : Value} {es : List (Value × Value)} {f : Pt → List Pt} {g : List Pt} [k : AtM O v es f g] : Ce Z O v [v] := ⟨.map k.out⟩
end
/-! ### values that are the same as themselves, as H's eye sees -/
class S0 (Z : Vw) (O : List Pt) (v : Value) : Prop where
  out : ∀ lo R h, Mem lo Z (O ++ R) h → same0 v v = true
class SL (Z : Vw) (O : List Pt) (l : List Value) : Prop where
  out : ∀ lo R h, Mem lo Z (O ++ R) h → sameL l l = true
class SV (Z : Vw) (O : List Pt) (v : Value) : Prop where
  out : ∀ lo R h, Mem lo Z (O ++ R) h → sameV v v = true
section
variable {Z : Vw} {O : List Pt}
instance S0.int {k : IntKind} {n : Int} : S0 Z O (.int k n) := ⟨fun _ _ _ _ => by simp [same0]⟩
instance S0.bool {b : Bool} : S0 Z O (.bool b) := ⟨fun _ _ _ _ => by simp [same0]⟩
instance S0.str {s : ByteArray} : S0 Z O (.string s) := ⟨fun _ _ _ _ => by simp [same0]⟩
instance S0.ptr {a : Option Addr} : S0 Z O (.pointer a) := ⟨fun _ _ _ _ => by simp [same0]⟩
instance S0.sl {a : Option Addr} {n c : Nat} : S0 Z O (.slice a n c) := ⟨fun _ _ _ _ => by simp [same0]⟩
instance S0.mp {a : Option Nat} : S0 Z O (.map a) := ⟨fun _ _ _ _ => by simp [same0]⟩
instance (priority := low) S0.se {v : Value} {e : Nat} {xs : List (List Value)} [k : Se Z O v e xs] : S0 Z O v := ⟨fun lo R h m => by
  obtain ⟨a, c, rfl⟩ := k.out.slice m; simp [same0]⟩
instance SL.nil : SL Z O [] := ⟨fun _ _ _ _ => rfl⟩
instance SL.cons {v : Value} {l : List Value} [a : S0 Z O v] [b : SL Z O l] : SL Z O (v :: l) := ⟨fun lo R h m => by simp [sameL, a.out lo R h m, b.out lo R h m]⟩
instance SV.agg {l : List Value} [a : SL Z O l] : SV Z O (.agg ⟨l⟩) := ⟨fun lo R h m => a.out lo R h m⟩
instance (priority := low) SV.one {v : Value} [a : S0 Z O v] : SV Z O v := ⟨fun lo R h m => by
  have := a.out lo R h m
  cases v <;> first | exact this | cases this⟩
end
section
variable {F : Nat → Option HFn} {lo N : Nat} {A : Tab} {Z : Vw} {O : List Pt} {K : Value → Vw → List Pt → Prop} {Q : Tab → Vw → List Pt → Prop}
theorem rDo {ops : List HOper} {j : Nat} {js : List Nat} {op : HOp} {d : Nat} {v : Value} [s : SV Z O v] (ho : ops[j]? = some ⟨some d, op, none⟩) (hd : look A d = some v) (hr : Rds lo op N A Z O v) (k : Rck lo ops N A Z O js) : Rck lo ops N A Z O (j :: js) :=
  fun R σ h hs m => Rck_do ho hd hr (s.out lo R h m) k R σ h hs m
theorem rIf {ops : List HOper} {j : Nat} {js : List Nat} {op : HOp} {d t : Nat} {b : Bool} {v : Value} [s : SV Z O v] (ho : ops[j]? = some ⟨some d, op, some (t, b)⟩) (hl : look A t = some (.bool b)) (hd : look A d = some v) (hr : Rds lo op N A Z O v) (k : Rck lo ops N A Z O js) : Rck lo ops N A Z O (j :: js) :=
  fun R σ h hs m => Rck_if ho hl hd hr (s.out lo R h m) k R σ h hs m
/-! ### steps, in short -/
theorem Ra {d : Nat} {op : HOp} {os : List HOper} (hd : Nat.blt d N = true) (k : X F lo op N A Z O (fun v Z1 O1 => R F lo os N ((d, v) :: A) Z1 O1 Q)) : R F lo (⟨some d, op, none⟩ :: os) N A Z O Q := R_cons (S_do hd k)
theorem Rn {op : HOp} {os : List HOper} (k : X F lo op N A Z O (fun v Z1 O1 => R F lo os N A Z1 O1 Q)) : R F lo (⟨none, op, none⟩ :: os) N A Z O Q := R_cons (S_dn k)
theorem Rb {d : Nat} {op : HOp} {t : Nat} {b : Bool} {os : List HOper} (hl : look A t = some (.bool b)) (hd : Nat.blt d N = true) (k : X F lo op N A Z O (fun v Z1 O1 => R F lo os N ((d, v) :: A) Z1 O1 Q)) : R F lo (⟨some d, op, some (t, b)⟩ :: os) N A Z O Q := R_cons (S_if hl hd k)
theorem Rbn {op : HOp} {t : Nat} {b : Bool} {os : List HOper} (hl : look A t = some (.bool b)) (k : X F lo op N A Z O (fun v Z1 O1 => R F lo os N A Z1 O1 Q)) : R F lo (⟨none, op, some (t, b)⟩ :: os) N A Z O Q := R_cons (S_ifn hl k)
theorem Rc {d : Nat} {op : HOp} {t : Nat} {b : Bool} {os : List HOper} (hl : look A t = some (.bool (!b))) (hd : Nat.blt d N = true) (k : R F lo os N ((d, undef) :: A) Z O Q) : R F lo (⟨some d, op, some (t, b)⟩ :: os) N A Z O Q := R_cons (S_no hl hd k)
theorem Rcn {op : HOp} {t : Nat} {b : Bool} {os : List HOper} (hl : look A t = some (.bool (!b))) (k : R F lo os N A Z O Q) : R F lo (⟨none, op, some (t, b)⟩ :: os) N A Z O Q := R_cons (S_non hl k)
theorem Rd {d : Nat} {op : HOp} {t : Nat} {b : Bool} {os : List HOper} (hl : look A t = some undef) (hd : Nat.blt d N = true) (k : R F lo os N ((d, undef) :: A) Z O Q) : R F lo (⟨some d, op, some (t, b)⟩ :: os) N A Z O Q := R_cons (S_un hl hd k)
theorem Rdn {op : HOp} {t : Nat} {b : Bool} {os : List HOper} (hl : look A t = some undef) (k : R F lo os N A Z O Q) : R F lo (⟨none, op, some (t, b)⟩ :: os) N A Z O Q := R_cons (S_unn hl k)
section
variable {ops : List HOper} {i : Nat} {rest : List (Nat × List Nat)}
theorem Da {d : Nat} {op : HOp} (ho : ops[i]? = some ⟨some d, op, none⟩) (hd : Nat.blt d N = true) (k : X F lo op N A Z O (fun v Z1 O1 => D F lo ops rest N ((d, v) :: A) Z1 O1 Q)) : D F lo ops ((i, []) :: rest) N A Z O Q :=
  D_consR ho (S_do hd fun R σ h hs m => by obtain ⟨n, v, h', Z', O', k1, k2, k3, k4⟩ := k R σ h hs m; exact ⟨n, v, h', Z', O', k1, k2, k3, Rck_nil, k4⟩)
theorem Dn {op : HOp} (ho : ops[i]? = some ⟨none, op, none⟩) (k : X F lo op N A Z O (fun v Z1 O1 => D F lo ops rest N A Z1 O1 Q)) : D F lo ops ((i, []) :: rest) N A Z O Q :=
  D_consR ho (S_dn fun R σ h hs m => by obtain ⟨n, v, h', Z', O', k1, k2, k3, k4⟩ := k R σ h hs m; exact ⟨n, v, h', Z', O', k1, k2, k3, Rck_nil, k4⟩)
theorem Db {d : Nat} {op : HOp} {t : Nat} {b : Bool} (ho : ops[i]? = some ⟨some d, op, some (t, b)⟩) (hl : look A t = some (.bool b)) (hd : Nat.blt d N = true) (k : X F lo op N A Z O (fun v Z1 O1 => D F lo ops rest N ((d, v) :: A) Z1 O1 Q)) : D F lo ops ((i, []) :: rest) N A Z O Q :=
  D_consR ho (S_if hl hd fun R σ h hs m => by obtain ⟨n, v, h', Z', O', k1, k2, k3, k4⟩ := k R σ h hs m; exact ⟨n, v, h', Z', O', k1, k2, k3, Rck_nil, k4⟩)
theorem Dbn {op : HOp} {t : Nat} {b : Bool} (ho : ops[i]? = some ⟨none, op, some (t, b)⟩) (hl : look A t = some (.bool b)) (k : X F lo op N A Z O (fun v Z1 O1 => D F lo ops rest N A Z1 O1 Q)) : D F lo ops ((i, []) :: rest) N A Z O Q :=
  D_consR ho (S_ifn hl fun R σ h hs m => by obtain ⟨n, v, h', Z', O', k1, k2, k3, k4⟩ := k R σ h hs m; exact ⟨n, v, h', Z', O', k1, k2, k3, Rck_nil, k4⟩)
theorem Dc {d : Nat} {op : HOp} {t : Nat} {b : Bool} (ho : ops[i]? = some ⟨some d, op, some (t, b)⟩) (hl : look A t = some (.bool (!b))) (hd : Nat.blt d N = true) (k : D F lo ops rest N ((d, undef) :: A) Z O Q) : D F lo ops ((i, []) :: rest) N A Z O Q := D_consR ho (S_no hl hd ⟨Rck_nil, k⟩)
theorem Dcn {op : HOp} {t : Nat} {b : Bool} (ho : ops[i]? = some ⟨none, op, some (t, b)⟩) (hl : look A t = some (.bool (!b))) (k : D F lo ops rest N A Z O Q) : D F lo ops ((i, []) :: rest) N A Z O Q := D_consR ho (S_non hl ⟨Rck_nil, k⟩)
theorem Dd {d : Nat} {op : HOp} {t : Nat} {b : Bool} (ho : ops[i]? = some ⟨some d, op, some (t, b)⟩) (hl : look A t = some undef) (hd : Nat.blt d N = true) (k : D F lo ops rest N ((d, undef) :: A) Z O Q) : D F lo ops ((i, []) :: rest) N A Z O Q := D_consR ho (S_un hl hd ⟨Rck_nil, k⟩)
theorem Ddn {op : HOp} {t : Nat} {b : Bool} (ho : ops[i]? = some ⟨none, op, some (t, b)⟩) (hl : look A t = some undef) (k : D F lo ops rest N A Z O Q) : D F lo ops ((i, []) :: rest) N A Z O Q := D_consR ho (S_unn hl ⟨Rck_nil, k⟩)
end
/-! ### loads -/
section
variable {b o e k0 n : Nat} {v w : Value} {cs x : List Value} {xs : List (List Value)} {f : Pt → List Pt} {g : List Pt} {a y i : Operand}
variable {α : Type} [Inhabited α] {fe : α → List Value} {l : List α}
theorem lB [k : AtB O b cs f g] (ha : evA A a = some (.pointer (some ⟨b, o, none⟩))) (hw : cs[o]? = some w) : Rds lo (.load none a) N A Z O w := L_box ha k.out hw
theorem lBA [k : AtB O b cs f g] (ha : evA A a = some (.pointer (some ⟨b, 0, none⟩))) (hn : Nat.beq cs.length n = true) : Rds lo (.load (some n) a) N A Z O (.agg ⟨cs⟩) := L_boxA ha k.out (Nat.eq_of_beq_eq_true hn)
theorem lBP [k : AtB O b cs f g] (ha : evA A a = some (.pointer (some ⟨b, o, none⟩))) (hn : Nat.ble (o + n) cs.length = true) : Rds lo (.load (some n) a) N A Z O (.agg ⟨(cs.drop o).take n⟩) := L_boxP ha k.out (Nat.le_of_ble_eq_true hn)
theorem lE [k : Se Z O v e (l.map fe)] (ha : evA A a = some (.pointer (some ⟨bb v, oo v + k0 * e + o, none⟩))) (hk : k0 < l.length) (hw : (fe (l.getD k0 default))[o]? = some w) : Rds lo (.load none a) N A Z O w := L_el ha k.out (map_at hk) hw
theorem lE0 [k : Se Z O v e (l.map fe)] (ha : evA A a = some (.pointer (some ⟨bb v, oo v + k0 * e, none⟩))) (hk : k0 < l.length) (hw : (fe (l.getD k0 default))[0]? = some w) : Rds lo (.load none a) N A Z O w := L_el0 ha k.out (map_at hk) hw
theorem lEA [k : Se Z O v e (l.map fe)] (ha : evA A a = some (.pointer (some ⟨bb v, oo v + k0 * e, none⟩))) (hk : k0 < l.length) : Rds lo (.load (some e) a) N A Z O (.agg ⟨fe (l.getD k0 default)⟩) := L_elA ha k.out (map_at hk)
theorem lEP [k : Se Z O v e (l.map fe)] (ha : evA A a = some (.pointer (some ⟨bb v, oo v + k0 * e + o, none⟩))) (hk : k0 < l.length) (hn : Nat.ble (o + n) e = true) : Rds lo (.load (some n) a) N A Z O (.agg ⟨((fe (l.getD k0 default)).drop o).take n⟩) := L_elP ha k.out (map_at hk) hn
theorem lX [k : Se Z O v e xs] (ha : evA A a = some (.pointer (some ⟨bb v, oo v + k0 * e + o, none⟩))) (hx : xs[k0]? = some x) (hw : x[o]? = some w) : Rds lo (.load none a) N A Z O w := L_el ha k.out hx hw
theorem lX0 [k : Se Z O v e xs] (ha : evA A a = some (.pointer (some ⟨bb v, oo v + k0 * e, none⟩))) (hx : xs[k0]? = some x) (hw : x[0]? = some w) : Rds lo (.load none a) N A Z O w := L_el0 ha k.out hx hw
theorem lXA [k : Se Z O v e xs] (ha : evA A a = some (.pointer (some ⟨bb v, oo v + k0 * e, none⟩))) (hx : xs[k0]? = some x) : Rds lo (.load (some e) a) N A Z O (.agg ⟨x⟩) := L_elA ha k.out hx
/-! ### slices -/
theorem xLen [s : Se Z O v e (l.map fe)] (hx : evA A a = some v) (k : K (.int .i64 l.length) Z O) : X F lo (.len a) N A Z O K := X_len hx s.out (List.length_map _) k
theorem xLenX [s : Se Z O v e xs] (hx : evA A a = some v) (k : K (.int .i64 xs.length) Z O) : X F lo (.len a) N A Z O K := X_len hx s.out rfl k
theorem xIa {esz : Nat} {k' : IntKind} {j : Int} [s : Se Z O v e (l.map fe)] [hk : TN j k0] (hx : evA A a = some v) (hi : evA A i = some (.int k' j)) (h0 : 0 ≤ j) (h1 : k0 < l.length) (k : K (.pointer (some ⟨bb v, oo v + k0 * esz, none⟩)) Z O) : X F lo (.iaddr esz a i) N A Z O K :=
  X_iaddr hx hi s.out h0 hk.out (by rw [List.length_map]; exact h1) k
theorem xIaX {esz : Nat} {k' : IntKind} {j : Int} [s : Se Z O v e xs] [hk : TN j k0] (hx : evA A a = some v) (hi : evA A i = some (.int k' j)) (h0 : 0 ≤ j) (h1 : k0 < xs.length) (k : K (.pointer (some ⟨bb v, oo v + k0 * esz, none⟩)) Z O) : X F lo (.iaddr esz a i) N A Z O K :=
  X_iaddr hx hi s.out h0 hk.out h1 k
theorem xIaa {n esz b o : Nat} {k' : IntKind} {j : Int} {x : Operand} [hk : TN j k0] (hx : evA A x = some (.pointer (some ⟨b, o, none⟩))) (hi : evA A i = some (.int k' j)) (h0 : 0 ≤ j) (h1 : k0 < n) (k : K (.pointer (some ⟨b, o + k0 * esz, none⟩)) Z O) : X F lo (.iaddra n esz x i) N A Z O K := X_iaddra hx hi h0 hk.out h1 k
theorem xMk {esz bytes l0 c0 : Nat} {z : List Value} {x c : Operand} {kl kc : IntKind} {il ic : Int} [e1 : TN il l0] [e2 : TN ic c0] (hl : evA A x = some (.int kl il)) (hc : evA A c = some (.int kc ic)) (h0 : 0 ≤ il) (h1 : il ≤ ic) (h2 : ic * bytes ≤ 2 ^ 44) (hz : Nat.beq z.length esz = true)
    (k : ∀ v, K v Z (.arr v esz c0 (List.replicate l0 z) :: O)) : X F lo (.mkslice esz bytes z x c) N A Z O K := X_mkslice hl hc h0 h1 h2 hz e1.out e2.out k
theorem xBox {vs : List Value} [c : Ce Z O v vs] (hx : evA A a = some v) (k : ∀ b, K (.pointer (some ⟨b, 0, none⟩)) Z (.box b vs :: O)) : X F lo (.box a) N A Z O K := X_boxC hx c.out k
theorem xSB {vs cs' : List Value} [c : Ce Z O v vs] [t : AtB O b cs f g] (ha : evA A a = some (.pointer (some ⟨b, o, none⟩))) (hx : evA A y = some v) (hn : Nat.beq vs.length n = true) (ho : Nat.ble (o + n) cs.length = true)
    (hcs : cs.take o ++ (vs ++ cs.drop (o + n)) = cs') (k : K undef Z (f (.box b cs'))) : X F lo (.store n a y) N A Z O K := X_storeBC ha hx c.out hn t.out ho hcs k
theorem xSW {vs : List Value} [c : Ce Z O v vs] [t : AtB O b cs f g] (ha : evA A a = some (.pointer (some ⟨b, 0, none⟩))) (hx : evA A y = some v) (hn : Nat.beq vs.length n = true) (hl : Nat.beq cs.length n = true) (k : K undef Z (f (.box b vs))) : X F lo (.store n a y) N A Z O K :=
  X_storeBC ha hx c.out hn t.out (by rw [Nat.eq_of_beq_eq_true hl, Nat.zero_add]; exact Nat.ble_eq_true_of_le (Nat.le_refl _)) (by rw [List.take_zero, List.nil_append, Nat.zero_add, List.drop_of_length_le (by rw [Nat.eq_of_beq_eq_true hl]; exact Nat.le_refl _), List.append_nil]) k
theorem xSA {cp : Nat} {vs : List Value} [c : Ce Z O w vs] [t : AtA O v e cp (l.map fe) f g] (ha : evA A a = some (.pointer (some ⟨bb v, oo v + k0 * e, none⟩))) (hy : evA A y = some w) (hn : Nat.beq vs.length n = true) (hk : k0 < l.length) (ho : Nat.beq n e = true)
    (k : K undef Z (f (.arr v e cp ((l.map fe).set k0 vs)))) : X F lo (.store n a y) N A Z O K := X_storeArr0C ha hy c.out hn t.out (map_at hk) ho k
theorem xSAX {cp : Nat} {vs : List Value} [c : Ce Z O w vs] [t : AtA O v e cp xs f g] (ha : evA A a = some (.pointer (some ⟨bb v, oo v + k0 * e, none⟩))) (hy : evA A y = some w) (hn : Nat.beq vs.length n = true) (hx : xs[k0]? = some x) (ho : Nat.beq n e = true)
    (k : K undef Z (f (.arr v e cp (xs.set k0 vs)))) : X F lo (.store n a y) N A Z O K := X_storeArr0C ha hy c.out hn t.out hx ho k
theorem xSG {vs : List Value} [c : Ce Z O w vs] [t : AtG O v e (l.map fe) f g] (ha : evA A a = some (.pointer (some ⟨bb v, oo v + k0 * e, none⟩))) (hy : evA A y = some w) (hn : Nat.beq vs.length n = true) (hk : k0 < l.length) (ho : Nat.beq n e = true)
    (k : K undef Z (f (.gro v e ((l.map fe).set k0 vs)))) : X F lo (.store n a y) N A Z O K := X_storeGro0C ha hy c.out hn t.out (map_at hk) ho k
theorem xApN {esz bytes : Nat} {ys : List (List Value)} [s : Se Z O w esz ys] (he : Nat.blt 0 esz = true) (hs : evA A a = some (.slice none 0 0)) (hx : evA A y = some w) (hb : ys.length * bytes ≤ 2 ^ 44) (k : ∀ v', K v' Z (.gro v' esz ys :: O)) : X F lo (.append esz bytes a y) N A Z O K := X_appendNil he hs hx s.out hb k
theorem xApG {esz bytes : Nat} {ys : List (List Value)} [t : AtG O v esz xs f g] [s : Se Z O w esz ys] (hs : evA A a = some v) (hx : evA A y = some w) (hb : (xs.length + ys.length) * bytes ≤ 2 ^ 44) (k : ∀ v', K v' Z (f (.gro v' esz (xs ++ ys)))) : X F lo (.append esz bytes a y) N A Z O K := X_appendG hs hx t.out s.out hb k
theorem xApA {esz bytes c : Nat} {ys : List (List Value)} [t : AtA O v esz c xs f g] [s : Se Z O w esz ys] (he : Nat.blt 0 esz = true) (hs : evA A a = some v) (hx : evA A y = some w) (hc : c < xs.length + ys.length) (hb : (xs.length + ys.length) * bytes ≤ 2 ^ 44) (k : ∀ v', K v' Z (.gro v' esz (xs ++ ys) :: O)) : X F lo (.append esz bytes a y) N A Z O K := X_appendA he hs hx t.out s.out hc hb k
theorem xApR {esz bytes c : Nat} {ys : List (List Value)} [t : AtA O v esz c xs f g] [s : Se Z O w esz ys] (hs : evA A a = some v) (hx : evA A y = some w) (hc : xs.length + ys.length ≤ c) (k : ∀ v', K v' Z (f (.arr v' esz c (xs ++ ys)))) : X F lo (.append esz bytes a y) N A Z O K := X_appendR hs hx t.out s.out hc k
theorem xLenm {es : List (Value × Value)} [t : AtM O v es f g] (hm : evA A a = some v) (k : K (.int .i64 es.length) Z O) : X F lo (.lenm a) N A Z O K := X_lenm hm t.out k
theorem xLook {d : EqD} {zero kv : Value} {ok : Bool} {es : List (Value × Value)} {r : Option Value} [t : AtM O v es f g] (hm : evA A a = some v) (hk : evA A y = some kv) (hko : keyOk d kv = true) (hf : findM d kv es = some r)
    (k : K (if ok then .tuple #[r.getD zero, .bool r.isSome] else r.getD zero) Z O) : X F lo (.lookup d zero a y ok) N A Z O K := X_lookup hm hk t.out hko hf k
theorem xPut {d : EqD} {kv w : Value} {es : List (Value × Value)} {r : Option Nat} {z : Operand} [t : AtM O v es f g] (hm : evA A a = some v) (hk : evA A y = some kv) (hx : evA A z = some w) (hko : keyOk d kv = true) (hf : placeM d kv es 0 = some r)
    (k : K undef Z (f (.map v (putM kv w es r)))) : X F lo (.mput d a y z) N A Z O K := X_mput hm hk hx t.out hko hf k
theorem xSl {esz i0 j0 : Nat} {Z0 : Vw} {lq hq : Option Operand} [fz : Fz Z0 esz v xs] [z : ZC Z0 Z] (hx : evA A a = some v)
    (hl : (lq = none ∧ i0 = 0) ∨ ∃ y k i, lq = some y ∧ evA A y = some (.int k i) ∧ 0 ≤ i ∧ i.toNat = i0) (hh : (hq = none ∧ j0 = xs.length) ∨ ∃ y k j, hq = some y ∧ evA A y = some (.int k j) ∧ 0 ≤ j ∧ j.toNat = j0) (h1 : i0 ≤ j0) (h2 : j0 ≤ xs.length)
    (k : ∀ v', Fz Z esz v' ((xs.drop i0).take (j0 - i0)) → K v' Z O) : X F lo (.slice esz a lq hq none) N A Z O K := X_sliceZ hx (fz.le z.le) hl hh h1 h2 k
end
theorem pCons {o s : Nat} {x : Operand} {v : Value} {vs : List Value} {ps : List (Nat × Nat × Operand)} {r : List (Nat × Nat × List Value)} [c : Ce Z O v vs] (hx : evA A x = some v) (k : Parts A Z O ps r) : Parts A Z O ((o, s, x) :: ps) ((o, s, vs) :: r) := .cons hx c.out k
/-- A call that leaves nothing of its own. -/
theorem xP {args : List Operand} {k : Nat} {vs : List Value} {P : Value → Vw → Prop} (hc : CallP F lo k vs Z P) (ha : evsA A args = some vs) (kk : ∀ v Z', ZL Z Z' → P v Z' → K v Z' O) : X F lo (.call (.func k) args) N A Z O K :=
  X_callP ha hc fun v Z' hz hq => kk v Z' ⟨hz⟩ hq
/-- A call that changes one of the call's own. -/
def Call1 (F : Nat → Option HFn) (lo k : Nat) (vs : List Value) (Z : Vw) (o : Pt) (Q : Value → Vw → Pt → Prop) : Prop := Call F lo k vs Z [o] fun v Z' O' => ∃ o', O' = [o'] ∧ Q v Z' o'
theorem x1 {args : List Operand} {k : Nat} {vs : List Value} {o : Pt} {f : Pt → List Pt} {g : List Pt} {P : Value → Vw → Pt → Prop} (hc : Call1 F lo k vs Z o P) (ha : evsA A args = some vs) (hat : At O o f g) (kk : ∀ v Z' o', ZL Z Z' → P v Z' o' → K v Z' (o' :: g)) : X F lo (.call (.func k) args) N A Z O K :=
  X_call1 ha hat (Call.mono hc fun v Z' O' hz hq => by
    obtain ⟨o', rfl, hq⟩ := hq
    exact kk v Z' o' ⟨hz⟩ hq)
theorem x1B {args : List Operand} {k b : Nat} {cs : List Value} {vs : List Value} {f : Pt → List Pt} {g : List Pt} {P : Value → Vw → Pt → Prop} [t : AtB O b cs f g] (hc : Call1 F lo k vs Z (.box b cs) P) (ha : evsA A args = some vs) (kk : ∀ v Z' o', ZL Z Z' → P v Z' o' → K v Z' (o' :: g)) : X F lo (.call (.func k) args) N A Z O K := x1 hc ha t.out kk
theorem x1A {args : List Operand} {k e c : Nat} {v : Value} {xs : List (List Value)} {vs : List Value} {f : Pt → List Pt} {g : List Pt} {P : Value → Vw → Pt → Prop} [t : AtA O v e c xs f g] (hc : Call1 F lo k vs Z (.arr v e c xs) P) (ha : evsA A args = some vs) (kk : ∀ v Z' o', ZL Z Z' → P v Z' o' → K v Z' (o' :: g)) : X F lo (.call (.func k) args) N A Z O K := x1 hc ha t.out kk
theorem x1G {args : List Operand} {k e : Nat} {v : Value} {xs : List (List Value)} {vs : List Value} {f : Pt → List Pt} {g : List Pt} {P : Value → Vw → Pt → Prop} [t : AtG O v e xs f g] (hc : Call1 F lo k vs Z (.gro v e xs) P) (ha : evsA A args = some vs) (kk : ∀ v Z' o', ZL Z Z' → P v Z' o' → K v Z' (o' :: g)) : X F lo (.call (.func k) args) N A Z O K := x1 hc ha t.out kk
theorem Fn1 {k : Nat} {fn : HFn} {vs : List Value} {o : Pt} {Q : Value → Vw → Pt → Prop} (hF : F k = some fn) (hp : fn.prim = none) (hl : Nat.ble vs.length fn.ntmps = true) (hb : W F lo fn.body fn.ntmps (argsA 0 vs) Z [o] (fnQ lo fn.res fun v Z' O' => ∃ o', O' = [o'] ∧ Q v Z' o')) : Call1 F lo k vs Z o Q := Fn hF hp hl hb
theorem fn1_ret {rs : List (Nat × Option (Option Nat))} {o' : Pt} {Q : Value → Vw → Pt → Prop} {l : List Value} (hr : Res A Z O rs l) (hh : Has O [o']) (k : Q (tupled l) Z o') : fnQ lo rs (fun v Z' O' => ∃ o', O' = [o'] ∧ Q v Z' o') .ret A Z O := fn_ret hr (Upd.has hh ⟨o', rfl, k⟩)
theorem fn1_nrm {rs : List (Nat × Option (Option Nat))} {o' : Pt} {Q : Value → Vw → Pt → Prop} {l : List Value} (hr : Res A Z O rs l) (hh : Has O [o']) (k : Q (tupled l) Z o') : fnQ lo rs (fun v Z' O' => ∃ o', O' = [o'] ∧ Q v Z' o') .nrm A Z O := fn_nrm hr (Upd.has hh ⟨o', rfl, k⟩)
theorem wLoop {ι : Type} {c : HC} {Q : Out → Tab → Vw → List Pt → Prop} (T : ι → Tab) (L : ι → List Pt) (P : ι → Vw → Prop) (μ : ι → Nat) (i0 : ι) (hT : SubT (T i0) A) (h0 : Upd lo Z O fun Z' O' => P i0 Z' ∧ Has O' (L i0))
    (round : ∀ i Z', ZL Z Z' → P i Z' → W F lo c N (T i ++ keepT (wrote c) A) Z' (L i) (thenQ (fun A1 Z1 O1 => Upd lo Z1 O1 fun Z2 O2 => ∃ j, μ j < μ i ∧ P j Z2 ∧ SubT (T j) A1 ∧ Has O2 (L j)) Q)) : W F lo (.loop c) N A Z O Q :=
  W_loop T L P μ i0 hT h0 fun i Z' hz hp => round i Z' ⟨hz⟩ hp
theorem hB {O g L : List Pt} {f : Pt → List Pt} {b : Nat} {cs cs' : List Value} [t : AtB O b cs f g] (hc : cs = cs') (k : Has g L) : Has O (.box b cs' :: L) := .box t.out hc k
theorem hA {O g L : List Pt} {f : Pt → List Pt} {v : Value} {e c : Nat} {xs xs' : List (List Value)} [t : AtA O v e c xs f g] (hc : xs = xs') (k : Has g L) : Has O (.arr v e c xs' :: L) := .arr t.out hc k
theorem hG {O g L : List Pt} {f : Pt → List Pt} {v : Value} {e : Nat} {xs xs' : List (List Value)} [t : AtG O v e xs f g] (hc : xs = xs') (k : Has g L) : Has O (.gro v e xs' :: L) := .gro t.out hc k
theorem hM {O g L : List Pt} {f : Pt → List Pt} {v : Value} {es es' : List (Value × Value)} [t : AtM O v es f g] (hc : es = es') (k : Has g L) : Has O (.map v es' :: L) := .map t.out hc k
theorem uA {e c : Nat} {xs : List (List Value)} {f : Pt → List Pt} {g : List Pt} {K : Vw → List Pt → Prop} (v : Value) [t : AtA O v e c xs f g] (k : ∀ Z', ZL Z Z' → Fz Z' e v xs → Upd lo Z' g K) : Upd lo Z O K := Upd.arr t.out fun Z' hz hf => k Z' ⟨hz⟩ hf
theorem uG {e : Nat} {xs : List (List Value)} {f : Pt → List Pt} {g : List Pt} {K : Vw → List Pt → Prop} (v : Value) [t : AtG O v e xs f g] (k : ∀ Z', ZL Z Z' → Fz Z' e v xs → Upd lo Z' g K) : Upd lo Z O K := Upd.gro t.out fun Z' hz hf => k Z' ⟨hz⟩ hf
theorem rC {t b o : Nat} {rs : List (Nat × Option (Option Nat))} {v : Value} {l cs : List Value} {f : Pt → List Pt} {g : List Pt} [k : AtB O b cs f g] (hl : look A t = some (.pointer (some ⟨b, o, none⟩))) (hv : cs[o]? = some v) (kk : Res A Z O rs l) : Res A Z O ((t, some none) :: rs) (v :: l) := .cell hl k.out hv kk
theorem rA {t b n : Nat} {rs : List (Nat × Option (Option Nat))} {l cs : List Value} {f : Pt → List Pt} {g : List Pt} [k : AtB O b cs f g] (hl : look A t = some (.pointer (some ⟨b, 0, none⟩))) (hn : Nat.beq cs.length n = true) (kk : Res A Z O rs l) : Res A Z O ((t, some (some n)) :: rs) (.agg ⟨cs⟩ :: l) := .agg hl k.out (Nat.eq_of_beq_eq_true hn) kk
end
end Go.Proofs.Ytbjgnogcjglcoaa.Hm.V
