/- The operations of the logic whose memory is told by parts. -/
import Derived.Test.YtbjgnogcjglcoaaHVb
namespace Go.Proofs.Ytbjgnogcjglcoaa.Hm.V
open Go Go.Proofs.Ytbjgnogcjglcoaa.Hm
set_option linter.all false
set_option linter.unusedSimpArgs false
section
variable {F : Nat → Option HFn} {lo N : Nat} {A : Tab} {Z : Vw} {O : List Pt} {K : Value → Vw → List Pt → Prop}
theorem X_rds {op : HOp} {v : Value} (hnc : ∀ f xs, op ≠ .call f xs) (hr : Rds lo op N A Z O v) (k : K v Z O) : X F lo op N A Z O K :=
  fun R σ h hs m => ⟨0, v, h, Z, O, by have := hr R σ h hs m; cases op <;> first | exact this | exact absurd rfl (hnc _ _), .refl _, m, k⟩
theorem xo {op : HOp} (hnc : ∀ f xs, op ≠ .call f xs) {c : CallF} {σ : List Value} {h : Heap} : xoper c lo σ h op = xop lo σ h op := by
  cases op <;> first | rfl | exact absurd rfl (hnc _ _)
theorem X_mv {x : Operand} {v : Value} (hx : evA A x = some v) (k : K v Z O) : X F lo (.mv x) N A Z O K := X_rds (by simp) (fun R σ h hs m => by simp only [xop, evA_ok hs hx]) k
theorem X_pickT {c a b : Operand} {v : Value} (hc : evA A c = some (.bool true)) (ha : evA A a = some v) (k : K v Z O) : X F lo (.pick c a b) N A Z O K := X_rds (by simp) (fun R σ h hs m => by simp only [xop, evA_ok hs hc, evA_ok hs ha, if_true]) k
theorem X_pickF {c a b : Operand} {v : Value} (hc : evA A c = some (.bool false)) (hb : evA A b = some v) (k : K v Z O) : X F lo (.pick c a b) N A Z O K := X_rds (by simp) (fun R σ h hs m => by simp only [xop, evA_ok hs hc, evA_ok hs hb, Bool.false_eq_true, if_false]) k
theorem X_pick {c a b : Operand} {t : Bool} {va vb : Value} (hc : evA A c = some (.bool t)) (ha : evA A a = some va) (hb : evA A b = some vb) (k : K (if t = true then va else vb) Z O) : X F lo (.pick c a b) N A Z O K := X_rds (by simp) (fun R σ h hs m => by simp only [xop, evA_ok hs hc, evA_ok hs ha, evA_ok hs hb]) k
theorem X_nilchk {x : Operand} {a : Addr} (hx : evA A x = some (.pointer (some a))) (k : K (.pointer (some a)) Z O) : X F lo (.nilchk x) N A Z O K := X_rds (by simp) (fun R σ h hs m => by simp only [xop, evA_ok hs hx]) k
theorem X_bin {op : BinOp} {x y : Operand} {a b v : Value} (hx : evA A x = some a) (hy : evA A y = some b) (hb : bin op a b = some v) (k : K v Z O) : X F lo (.bin op x y) N A Z O K := X_rds (by simp) (fun R σ h hs m => by simp only [xop, evA_ok hs hx, evA_ok hs hy, hb, Option.map_some]) k
theorem X_split {op : BinOp} {x y : Operand} {va vb : Value} {p : Prop} [Decidable p] (hx : evA A x = some va) (hy : evA A y = some vb) (hb : bin op va vb = some (.bool (decide p))) (kt : p → K (.bool true) Z O) (kf : ¬ p → K (.bool false) Z O) : X F lo (.bin op x y) N A Z O K := by
  by_cases hp : p
  · refine X_bin hx hy hb ?_
    rw [decide_eq_true hp]; exact kt hp
  · refine X_bin hx hy hb ?_
    rw [decide_eq_false hp]; exact kf hp
theorem X_lss {x y : Operand} {k : IntKind} {a b : Int} (hx : evA A x = some (.int k a)) (hy : evA A y = some (.int k b)) (kt : a < b → K (.bool true) Z O) (kf : b ≤ a → K (.bool false) Z O) : X F lo (.bin .lss x y) N A Z O K := X_split hx hy bin_lss kt (fun h => kf (Int.not_lt.1 h))
theorem X_leq {x y : Operand} {k : IntKind} {a b : Int} (hx : evA A x = some (.int k a)) (hy : evA A y = some (.int k b)) (kt : a ≤ b → K (.bool true) Z O) (kf : b < a → K (.bool false) Z O) : X F lo (.bin .leq x y) N A Z O K := X_split hx hy bin_leq kt (fun h => kf (Int.not_le.1 h))
theorem X_gtr {x y : Operand} {k : IntKind} {a b : Int} (hx : evA A x = some (.int k a)) (hy : evA A y = some (.int k b)) (kt : b < a → K (.bool true) Z O) (kf : a ≤ b → K (.bool false) Z O) : X F lo (.bin .gtr x y) N A Z O K := X_split hx hy bin_gtr kt (fun h => kf (Int.not_lt.1 h))
theorem X_geq {x y : Operand} {k : IntKind} {a b : Int} (hx : evA A x = some (.int k a)) (hy : evA A y = some (.int k b)) (kt : b ≤ a → K (.bool true) Z O) (kf : a < b → K (.bool false) Z O) : X F lo (.bin .geq x y) N A Z O K := X_split hx hy bin_geq kt (fun h => kf (Int.not_le.1 h))
theorem X_eql {x y : Operand} {k : IntKind} {a b : Int} (hx : evA A x = some (.int k a)) (hy : evA A y = some (.int k b)) (kt : a = b → K (.bool true) Z O) (kf : a ≠ b → K (.bool false) Z O) : X F lo (.bin .eql x y) N A Z O K := X_split hx hy bin_eql kt kf
theorem X_neq {x y : Operand} {k : IntKind} {a b : Int} (hx : evA A x = some (.int k a)) (hy : evA A y = some (.int k b)) (kt : a = b → K (.bool false) Z O) (kf : a ≠ b → K (.bool true) Z O) : X F lo (.bin .neq x y) N A Z O K := X_split hx hy bin_neq kf (fun h => kt (Decidable.not_not.1 h))
theorem X_not {x : Operand} {b : Bool} (hx : evA A x = some (.bool b)) (k : K (.bool (!b)) Z O) : X F lo (.un .not x) N A Z O K := X_rds (by simp) (fun R σ h hs m => by simp only [xop, evA_ok hs hx]; rfl) k
theorem X_un {op : UnOp} {x : Operand} {a v : Value} (hx : evA A x = some a) (hb : pureRun (Op.unary op a) = some v) (k : K v Z O) : X F lo (.un op x) N A Z O K := X_rds (by simp) (fun R σ h hs m => by simp only [xop, evA_ok hs hx, hb, Option.map_some]) k
theorem X_conv {k' k : IntKind} {n : Int} {x : Operand} (hx : evA A x = some (.int k' n)) (kk : K (.int k (k.wrap n)) Z O) : X F lo (.convI k x) N A Z O K := X_rds (by simp) (fun R σ h hs m => by simp only [xop, evA_ok hs hx]) kk
theorem X_addI {x y : Operand} {a b : Int} (hx : evA A x = some (.int .i64 a)) (hy : evA A y = some (.int .i64 b)) (h1 : -9223372036854775808 ≤ a + b) (h2 : a + b < 9223372036854775808) (k : K (.int .i64 (a + b)) Z O) : X F lo (.bin .add x y) N A Z O K :=
  X_bin hx hy (v := .int .i64 (a + b)) (by
    have : bin .add (.int .i64 a) (.int .i64 b) = some (.int .i64 (IntKind.i64.wrap (a + b))) := rfl
    rw [this, wrap_i64 h1 h2]) k
theorem X_subI {x y : Operand} {a b : Int} (hx : evA A x = some (.int .i64 a)) (hy : evA A y = some (.int .i64 b)) (h1 : -9223372036854775808 ≤ a - b) (h2 : a - b < 9223372036854775808) (k : K (.int .i64 (a - b)) Z O) : X F lo (.bin .sub x y) N A Z O K :=
  X_bin hx hy (v := .int .i64 (a - b)) (by
    have : bin .sub (.int .i64 a) (.int .i64 b) = some (.int .i64 (IntKind.i64.wrap (a - b))) := rfl
    rw [this, wrap_i64 h1 h2]) k
theorem X_mulI {x y : Operand} {a b : Int} (hx : evA A x = some (.int .i64 a)) (hy : evA A y = some (.int .i64 b)) (h1 : -9223372036854775808 ≤ a * b) (h2 : a * b < 9223372036854775808) (k : K (.int .i64 (a * b)) Z O) : X F lo (.bin .mul x y) N A Z O K :=
  X_bin hx hy (v := .int .i64 (a * b)) (by
    have : bin .mul (.int .i64 a) (.int .i64 b) = some (.int .i64 (IntKind.i64.wrap (a * b))) := rfl
    rw [this, wrap_i64 h1 h2]) k
theorem X_eq {neg : Bool} {d : EqD} {x y : Operand} {a b : Value} {t : Bool} (hx : evA A x = some a) (hy : evA A y = some b) (hq : eqv d a b = some t) (k : K (.bool (if neg then !t else t)) Z O) : X F lo (.eq neg d x y) N A Z O K := X_rds (by simp) (fun R σ h hs m => by simp only [xop, evA_ok hs hx, evA_ok hs hy, hq, Option.map_some]) k
theorem X_eqP {neg : Bool} {d : EqD} {x y : Operand} {a b : Value} {p : Prop} [Decidable p] (hx : evA A x = some a) (hy : evA A y = some b) (hq : eqv d a b = some (decide p)) (kt : p → K (.bool (!neg)) Z O) (kf : ¬ p → K (.bool neg) Z O) : X F lo (.eq neg d x y) N A Z O K := by
  by_cases hp : p
  · refine X_eq hx hy (hq.trans (by rw [decide_eq_true hp])) ?_
    cases neg <;> exact kt hp
  · refine X_eq hx hy (hq.trans (by rw [decide_eq_false hp])) ?_
    cases neg <;> exact kf hp
theorem X_faddr {off b o : Nat} {x : Operand} (hx : evA A x = some (.pointer (some ⟨b, o, none⟩))) (k : K (.pointer (some ⟨b, o + off, none⟩)) Z O) : X F lo (.faddr off x) N A Z O K := X_rds (by simp) (fun R σ h hs m => by simp only [xop, evA_ok hs hx]) k
theorem X_field {off : Nat} {agg : Option Nat} {cs : Array Value} {v : Value} {x : Operand} (hx : evA A x = some (.agg cs)) (hp : partOf cs.toList off agg = some v) (k : K v Z O) : X F lo (.field off agg x) N A Z O K := X_rds (by simp) (fun R σ h hs m => by simp only [xop, evA_ok hs hx, hp, Option.map_some]) k
theorem X_index {n esz : Nat} {agg : Option Nat} {cs : Array Value} {v : Value} {k' : IntKind} {j : Int} {x i : Operand} (hx : evA A x = some (.agg cs)) (hi : evA A i = some (.int k' j)) (h0 : 0 ≤ j) (h1 : j < n) (hp : partOf cs.toList (j.toNat * esz) agg = some v) (k : K v Z O) : X F lo (.index n esz agg x i) N A Z O K :=
  X_rds (by simp) (fun R σ h hs m => by simp only [xop, evA_ok hs hx, evA_ok hs hi, h0, h1, and_self, if_true, hp, Option.map_some]) k
theorem X_extract {x : Operand} {i : Nat} {vs : Array Value} {v : Value} (hx : evA A x = some (.tuple vs)) (hv : vs.toList[i]? = some v) (k : K v Z O) : X F lo (.extract x i) N A Z O K := X_rds (by simp) (fun R σ h hs m => by simp only [xop, evA_ok hs hx, hv, Option.map_some]) k
theorem X_lens {x : Operand} {s : ByteArray} (hx : evA A x = some (.string s)) (k : K (.int .i64 s.size) Z O) : X F lo (.lens x) N A Z O K := X_rds (by simp) (fun R σ h hs m => by simp only [xop, evA_ok hs hx]) k
theorem X_lena {x : Operand} {n : Nat} (k : K (.int .i64 n) Z O) : X F lo (.lena n x) N A Z O K := X_rds (by simp) (fun R σ h hs m => by simp only [xop]) k
theorem X_indexs {x i : Operand} {s : ByteArray} {k' : IntKind} {j : Int} {c : UInt8} (hx : evA A x = some (.string s)) (hi : evA A i = some (.int k' j)) (h0 : 0 ≤ j) (hc : s.data.toList[j.toNat]? = some c) (k : K (.int .u8 c.toNat) Z O) : X F lo (.indexs x i) N A Z O K :=
  X_rds (by simp) (fun R σ h hs m => by simp only [xop, evA_ok hs hx, evA_ok hs hi, h0, if_true, hc, Option.map_some]) k
def evParts (A : Tab) : List (Nat × Nat × Operand) → Option (List (Nat × Nat × Value))
  | [] => some []
  | (o, s, x) :: ps => match evA A x, evParts A ps with
    | some v, some r => some ((o, s, v) :: r)
    | _, _ => none
theorem evParts_ok {σ : List Value} (hs : Sl N A σ) : ∀ {ps : List (Nat × Nat × Operand)} {r : List (Nat × Nat × Value)}, evParts A ps = some r → ps.map (fun p => (p.1, p.2.1, ev σ p.2.2)) = r
  | [], r, h => by cases h; rfl
  | (o, s, x) :: ps, r, h => by
    simp only [evParts] at h
    split at h
    · rename_i v r' h1 h2
      cases h
      rw [List.map_cons, evA_ok hs h1, evParts_ok hs h2]
    · cases h
theorem X_build {z : List Value} {parts : List (Nat × Nat × Operand)} {r : List (Nat × Nat × Value)} {cs : List Value} (hp : evParts A parts = some r) (hf : fillL z r = some cs) (k : K (.agg ⟨cs⟩) Z O) : X F lo (.build z parts) N A Z O K :=
  X_rds (by simp) (fun R σ h hs m => by simp only [xop, evParts_ok hs hp, hf]) k
theorem X_mkfunc {f : Nat} {a c : List Operand} {va vc : List Value} (ha : evsA A a = some va) (hc : evsA A c = some vc) (k : K (.func (.func f) ⟨va⟩ ⟨vc⟩) Z O) : X F lo (.mkfunc f a c) N A Z O K :=
  X_rds (by simp) (fun R σ h hs m => by simp only [xop, evsA_ok hs ha, evsA_ok hs hc]) k
/-! ### slices -/
theorem Sees.slice {e : Nat} {v : Value} {xs : List (List Value)} (k : Sees Z O e v xs) {R : List Pt} {h : Heap} (m : Mem lo Z (O ++ R) h) : ∃ a c, v = .slice a xs.length c := let ⟨_, a, c, h1, _⟩ := k lo R h m; ⟨a, c, h1⟩
theorem X_len {x : Operand} {e n : Nat} {v : Value} {xs : List (List Value)} (hx : evA A x = some v) (hs : Sees Z O e v xs) (hn : xs.length = n) (k : K (.int .i64 n) Z O) : X F lo (.len x) N A Z O K :=
  X_rds (by simp) (fun R σ h hσ m => by
    obtain ⟨a, c, rfl⟩ := hs.slice m
    simp only [xop, evA_ok hσ hx, hn]) k
theorem X_len0 {x : Operand} {a : Option Addr} {n c : Nat} (hx : evA A x = some (.slice a n c)) (k : K (.int .i64 n) Z O) : X F lo (.len x) N A Z O K := X_rds (by simp) (fun R σ h hs m => by simp only [xop, evA_ok hs hx]) k
/-- The place of an element. -/
theorem X_iaddr {esz e k0 : Nat} {v : Value} {xs : List (List Value)} {k' : IntKind} {j : Int} {x i : Operand} (hx : evA A x = some v) (hi : evA A i = some (.int k' j)) (hs : Sees Z O e v xs) (h0 : 0 ≤ j) (hk : j.toNat = k0) (h1 : k0 < xs.length)
    (k : K (.pointer (some ⟨bb v, oo v + k0 * esz, none⟩)) Z O) : X F lo (.iaddr esz x i) N A Z O K :=
  X_rds (by simp) (fun R σ h hσ m => by
    obtain ⟨⟨s, c, hv⟩, _⟩ := (hs lo R h m).at (List.getElem?_eq_getElem h1)
    have hj : j < (xs.length : Int) := by omega
    have e1 : ev σ x = .slice (some ⟨bb v, oo v, s⟩) xs.length c := (evA_ok hσ hx).trans hv
    simp only [xop, e1, evA_ok hσ hi, h0, hj, and_self, if_true, hk]) k
theorem X_iaddra {n esz b o k0 : Nat} {k' : IntKind} {j : Int} {x i : Operand} (hx : evA A x = some (.pointer (some ⟨b, o, none⟩))) (hi : evA A i = some (.int k' j)) (h0 : 0 ≤ j) (hk : j.toNat = k0) (h1 : k0 < n) (k : K (.pointer (some ⟨b, o + k0 * esz, none⟩)) Z O) : X F lo (.iaddra n esz x i) N A Z O K :=
  X_rds (by simp) (fun R σ h hs m => by
    have hj : j < (n : Int) := by omega
    simp only [xop, evA_ok hs hx, evA_ok hs hi, h0, hj, and_self, if_true, hk]) k
theorem map_at {α : Type} [Inhabited α] {f : α → List Value} {l : List α} {k : Nat} (h : k < l.length) : (l.map f)[k]? = some (f (l.getD k default)) := by
  rw [List.getElem?_map, List.getElem?_eq_getElem h, List.getD_eq_getElem?_getD, List.getElem?_eq_getElem h]; rfl
/-! ### loads -/
theorem L_el {e k0 o : Nat} {v w : Value} {x : List Value} {xs : List (List Value)} {a : Operand} (ha : evA A a = some (.pointer (some ⟨bb v, oo v + k0 * e + o, none⟩))) (hs : Sees Z O e v xs) (hx : xs[k0]? = some x) (hw : x[o]? = some w) : Rds lo (.load none a) N A Z O w :=
  fun R σ h hσ m => by
    obtain ⟨_, _, _, hr⟩ := (hs lo R h m).at hx
    simp only [xop, evA_ok hσ ha, rd1_rd hr hw, Option.map_some]
theorem L_el0 {e k0 : Nat} {v w : Value} {x : List Value} {xs : List (List Value)} {a : Operand} (ha : evA A a = some (.pointer (some ⟨bb v, oo v + k0 * e, none⟩))) (hs : Sees Z O e v xs) (hx : xs[k0]? = some x) (hw : x[0]? = some w) : Rds lo (.load none a) N A Z O w :=
  fun R σ h hσ m => by
    obtain ⟨_, _, _, hr⟩ := (hs lo R h m).at hx
    have := rd1_rd hr hw
    rw [Nat.add_zero] at this
    simp only [xop, evA_ok hσ ha, this, Option.map_some]
theorem L_elA {e k0 : Nat} {v : Value} {x : List Value} {xs : List (List Value)} {a : Operand} (ha : evA A a = some (.pointer (some ⟨bb v, oo v + k0 * e, none⟩))) (hs : Sees Z O e v xs) (hx : xs[k0]? = some x) : Rds lo (.load (some e) a) N A Z O (.agg ⟨x⟩) :=
  fun R σ h hσ m => by
    obtain ⟨_, _, _, hr⟩ := (hs lo R h m).at hx
    simp only [xop, evA_ok hσ ha, hr, Option.map_some]
theorem L_elP {e k0 o n : Nat} {v : Value} {x : List Value} {xs : List (List Value)} {a : Operand} (ha : evA A a = some (.pointer (some ⟨bb v, oo v + k0 * e + o, none⟩))) (hs : Sees Z O e v xs) (hx : xs[k0]? = some x) (hn : Nat.ble (o + n) e = true) : Rds lo (.load (some n) a) N A Z O (.agg ⟨(x.drop o).take n⟩) :=
  fun R σ h hσ m => by
    obtain ⟨_, _, _, hr⟩ := (hs lo R h m).at hx
    simp only [xop, evA_ok hσ ha, rd_rd hr (Nat.le_of_ble_eq_true hn), Option.map_some]
theorem L_box {b o : Nat} {w : Value} {cs : List Value} {f : Pt → List Pt} {g : List Pt} {a : Operand} (ha : evA A a = some (.pointer (some ⟨b, o, none⟩))) (hat : At O (.box b cs) f g) (hw : cs[o]? = some w) : Rds lo (.load none a) N A Z O w :=
  fun R σ h hσ m => by
    have hb := (m.own _ (At.isin hat)).2
    simp only [xop, evA_ok hσ ha, rd1_of (cells_row hb) hw, Option.map_some]
theorem L_boxA {b n : Nat} {cs : List Value} {f : Pt → List Pt} {g : List Pt} {a : Operand} (ha : evA A a = some (.pointer (some ⟨b, 0, none⟩))) (hat : At O (.box b cs) f g) (hn : cs.length = n) : Rds lo (.load (some n) a) N A Z O (.agg ⟨cs⟩) :=
  fun R σ h hσ m => by
    have hb := (m.own _ (At.isin hat)).2
    subst hn
    have := rd_of (o := 0) (n := cs.length) (cells_row hb) (by omega)
    rw [List.drop_zero, List.take_length] at this
    simp only [xop, evA_ok hσ ha, this, Option.map_some]
theorem L_boxP {b o n : Nat} {cs : List Value} {f : Pt → List Pt} {g : List Pt} {a : Operand} (ha : evA A a = some (.pointer (some ⟨b, o, none⟩))) (hat : At O (.box b cs) f g) (hn : o + n ≤ cs.length) : Rds lo (.load (some n) a) N A Z O (.agg ⟨(cs.drop o).take n⟩) :=
  fun R σ h hσ m => by
    have hb := (m.own _ (At.isin hat)).2
    simp only [xop, evA_ok hσ ha, rd_of (cells_row hb) hn, Option.map_some]
theorem X_load {agg : Option Nat} {a : Operand} {v : Value} (hr : Rds lo (.load agg a) N A Z O v) (k : K v Z O) : X F lo (.load agg a) N A Z O K := X_rds (by simp) hr k
/-! ### new things -/
theorem X_alloc {z : List Value} (k : ∀ b, K (.pointer (some ⟨b, 0, none⟩)) Z (.box b z :: O)) : X F lo (.alloc z) N A Z O K :=
  fun R σ h hs m => ⟨0, _, h.new z, Z, .box h.n z :: O, by rw [xo (by simp)]; simp only [xop], .refl _, m.box z, k h.n⟩
theorem X_box {x : Operand} {v : Value} {cs : List Value} (hx : evA A x = some v) (hc : cellsV v = some cs) (k : ∀ b, K (.pointer (some ⟨b, 0, none⟩)) Z (.box b cs :: O)) : X F lo (.box x) N A Z O K :=
  fun R σ h hs m => ⟨0, _, h.new cs, Z, .box h.n cs :: O, by rw [xo (by simp)]; simp only [xop, evA_ok hs hx, hc], .refl _, m.box cs, k h.n⟩
def evPartsS (A : Tab) (esz : Nat) : List (Nat × Operand) → Option (List (Nat × Nat × Value))
  | [] => some []
  | (i, x) :: ps => match evA A x, evPartsS A esz ps with
    | some v, some r => some ((i * esz, esz, v) :: r)
    | _, _ => none
theorem evPartsS_ok {esz : Nat} {σ : List Value} (hs : Sl N A σ) : ∀ {ps : List (Nat × Operand)} {r : List (Nat × Nat × Value)}, evPartsS A esz ps = some r → ps.map (fun p => (p.1 * esz, esz, ev σ p.2)) = r
  | [], r, h => by cases h; rfl
  | (i, x) :: ps, r, h => by
    simp only [evPartsS] at h
    split at h
    · rename_i v r' h1 h2
      cases h
      rw [List.map_cons, evA_ok hs h1, evPartsS_ok hs h2]
    · cases h
def chunk (e : Nat) : Nat → List Value → List (List Value)
  | 0, _ => []
  | n + 1, l => l.take e :: chunk e n (l.drop e)
theorem chunk_ok {e : Nat} : ∀ {n : Nat} {l : List Value}, l.length = n * e → (chunk e n l).flatten = l ∧ (chunk e n l).length = n ∧ ∀ x ∈ chunk e n l, x.length = e
  | 0, l, h => by
    have : l = [] := List.length_eq_zero_iff.1 (by simpa using h)
    subst this
    exact ⟨rfl, rfl, fun x hx => absurd hx (by simp [chunk])⟩
  | n + 1, l, h => by
    have h1 : e ≤ l.length := by rw [h, Nat.succ_mul]; omega
    obtain ⟨a, b, c⟩ := chunk_ok (e := e) (n := n) (l := l.drop e) (by rw [List.length_drop, h, Nat.succ_mul]; omega)
    refine ⟨by simp [chunk, a], by simp [chunk, b], fun x hx => ?_⟩
    simp only [chunk, List.mem_cons] at hx
    rcases hx with rfl | hx
    · rw [List.length_take]; omega
    · exact c x hx
theorem X_bslice {esz len : Nat} {z : List Value} {parts : List (Nat × Operand)} {r : List (Nat × Nat × Value)} {cs : List Value} {xs : List (List Value)} (hp : evPartsS A esz parts = some r) (hf : fillL (List.replicate len z).flatten r = some cs) (hl : Nat.beq cs.length (len * esz) = true) (hxs : chunk esz len cs = xs)
    (k : ∀ v, K v Z (.arr v esz len xs :: O)) : X F lo (.bslice esz len z parts) N A Z O K :=
  fun R σ h hs m => by
    subst hxs
    obtain ⟨c1, c2, c3⟩ := chunk_ok (Nat.eq_of_beq_eq_true hl)
    have hm := m.arr (e := esz) (c := len) (xs := chunk esz len cs) (sp := []) c3 (by omega) (by simp [c2])
    rw [c2, c1, List.append_nil] at hm
    exact ⟨0, .slice (some ⟨h.n, 0, none⟩) len len, h.new cs, Z, _ :: O, by rw [xo (by simp)]; simp only [xop, evPartsS_ok hs hp, hf], .refl _, hm, k _⟩
theorem X_mkslice {esz bytes l0 c0 : Nat} {z : List Value} {l c : Operand} {kl kc : IntKind} {il ic : Int} (hl : evA A l = some (.int kl il)) (hc : evA A c = some (.int kc ic)) (h0 : 0 ≤ il) (h1 : il ≤ ic) (h2 : ic * bytes ≤ 2 ^ 44) (hz : Nat.beq z.length esz = true) (e1 : il.toNat = l0) (e2 : ic.toNat = c0)
    (k : ∀ v, K v Z (.arr v esz c0 (List.replicate l0 z) :: O)) : X F lo (.mkslice esz bytes z l c) N A Z O K :=
  fun R σ h hs m => by
    have hz' := Nat.eq_of_beq_eq_true hz
    have hlc : l0 ≤ c0 := by omega
    have hm := m.arr (e := esz) (c := c0) (xs := List.replicate l0 z) (sp := (List.replicate (c0 - l0) z).flatten) (fun x hx => by rw [List.eq_of_mem_replicate hx, hz']) (by simpa using hlc) (by simp [hz'])
    have hfl : (List.replicate l0 z).flatten ++ (List.replicate (c0 - l0) z).flatten = (List.replicate c0 z).flatten := by
      rw [← List.flatten_append, List.replicate_append_replicate, Nat.add_sub_cancel' hlc]
    rw [hfl, List.length_replicate] at hm
    exact ⟨0, .slice (some ⟨h.n, 0, none⟩) l0 c0, h.new _, Z, _ :: O, by rw [xo (by simp)]; simp only [xop, evA_ok hs hl, evA_ok hs hc, h0, h1, h2, and_self, if_true, e1, e2], .refl _, hm, k _⟩
theorem X_mkmap (k : ∀ v, K v Z (.map v [] :: O)) : X F lo .mkmap N A Z O K :=
  fun R σ h hs m => ⟨0, .map (some h.n), h.newMap, Z, .map (.map (some h.n)) [] :: O, by rw [xo (by simp)]; simp only [xop], .refl _, m.mkmap, k _⟩
/-! ### stores -/
theorem put_row {lo b : Nat} {h : Heap} {cs cs' : List Value} (hb : h.get b = some (.row cs none)) (hlo : lo ≤ b) : h.put lo b cs' = some (h.setB b (.row cs' none)) := by
  unfold Heap.put
  rw [if_neg (by omega), hb]
theorem wr_row {lo b o : Nat} {h : Heap} {cs vs : List Value} (hb : h.get b = some (.row cs none)) (hlo : lo ≤ b) (ho : o + vs.length ≤ cs.length) : h.wr lo b o vs = some (h.setB b (.row (cs.take o ++ (vs ++ cs.drop (o + vs.length))) none)) := by
  unfold Heap.wr
  rw [cells_row hb]
  simp only [if_pos ho]
  exact put_row hb hlo
theorem X_storeB {n b o : Nat} {v : Value} {vs cs cs' : List Value} {f : Pt → List Pt} {g : List Pt} {a x : Operand} (ha : evA A a = some (.pointer (some ⟨b, o, none⟩))) (hx : evA A x = some v) (hc : cellsV v = some vs) (hn : Nat.beq vs.length n = true) (hat : At O (.box b cs) f g) (ho : Nat.ble (o + n) cs.length = true)
    (hcs : cs.take o ++ (vs ++ cs.drop (o + n)) = cs') (k : K undef Z (f (.box b cs'))) : X F lo (.store n a x) N A Z O K :=
  fun R σ h hs m => by
    have hn := Nat.eq_of_beq_eq_true hn
    have ho := Nat.le_of_ble_eq_true ho
    subst hn; subst hcs
    have m1 := At.mem hat m
    have hb := m1.own _ List.mem_cons_self
    refine ⟨0, undef, _, Z, _, ?_, .refl _, At.back hat (m1.setRow (o := .box b cs) (o' := .box b (cs.take o ++ (vs ++ cs.drop (o + vs.length)))) (b := b) (cs' := cs.take o ++ (vs ++ cs.drop (o + vs.length))) rfl rfl hb.2 ⟨hb.1, ?_⟩), k⟩
    · rw [xo (by simp)]
      simp only [xop, evA_ok hs ha, evA_ok hs hx, hc, if_true, wr_row hb.2 hb.1 ho, Option.map_some]
    · rw [Heap.get_setB hb.2, if_pos rfl]
theorem lt_of_getElem? {α : Type} {l : List α} {k : Nat} {x : α} (h : l[k]? = some x) : k < l.length := by
  rcases Nat.lt_or_ge k l.length with h1 | h1
  · exact h1
  · rw [List.getElem?_eq_none h1] at h; cases h
theorem flat_le {e k : Nat} {x : List Value} {xs : List (List Value)} (hx : ∀ x ∈ xs, x.length = e) (hk : xs[k]? = some x) : k * e + e ≤ xs.flatten.length := by
  rw [flatten_len hx, ← Nat.succ_mul]; exact Nat.mul_le_mul_right _ (lt_of_getElem? hk)
theorem patch_len {e o : Nat} {x vs : List Value} (hx : x.length = e) (ho : o + vs.length ≤ e) : (x.take o ++ (vs ++ x.drop (o + vs.length))).length = e := by
  simp only [List.length_append, List.length_take, List.length_drop]; omega
theorem X_storeArr {n e c k0 o : Nat} {v w : Value} {vs x : List Value} {xs : List (List Value)} {f : Pt → List Pt} {g : List Pt} {a y : Operand} (ha : evA A a = some (.pointer (some ⟨bb v, oo v + k0 * e + o, none⟩))) (hy : evA A y = some w) (hc : cellsV w = some vs) (hn : Nat.beq vs.length n = true) (hat : At O (.arr v e c xs) f g)
    (hx : xs[k0]? = some x) (ho : Nat.ble (o + n) e = true) (k : K undef Z (f (.arr v e c (xs.set k0 (x.take o ++ (vs ++ x.drop (o + n))))))) : X F lo (.store n a y) N A Z O K :=
  fun R σ h hs m => by
    have hn := Nat.eq_of_beq_eq_true hn
    have ho := Nat.le_of_ble_eq_true ho
    subst hn
    have m1 := At.mem hat m
    obtain ⟨b, sp, rfl, h1, h2, h3, h4, h5⟩ := m1.own _ List.mem_cons_self
    have hle := flat_le h5 hx
    have hbnd : k0 * e + o + vs.length ≤ (xs.flatten ++ sp).length := by rw [List.length_append]; omega
    have hfs := flat_set (sp := sp) ho h5 hx
    have hxl := h5 x (List.mem_of_getElem? hx)
    refine ⟨0, undef, _, Z, _, ?_, .refl _, At.back hat (m1.setRow (o' := .arr (.slice (some ⟨b, 0, none⟩) xs.length c) e c (xs.set k0 (x.take o ++ (vs ++ x.drop (o + vs.length))))) (b := b) rfl rfl h2 (cs' := (xs.set k0 (x.take o ++ (vs ++ x.drop (o + vs.length)))).flatten ++ sp) ?_), k⟩
    · rw [xo (by simp)]
      have ha' : evA A a = some (.pointer (some ⟨b, k0 * e + o, none⟩)) := by rw [ha]; simp [bb, oo]
      simp only [xop, evA_ok hs ha', evA_ok hs hy, hc, if_true, wr_row h2 h1 hbnd, Option.map_some, hfs]
    · refine ⟨b, sp, by simp, h1, by rw [Heap.get_setB h2, if_pos rfl], by simpa using h3, by simpa using h4, fun y hy => ?_⟩
      rcases List.mem_or_eq_of_mem_set hy with hy | rfl
      · exact h5 y hy
      · exact patch_len hxl ho
theorem X_storeArr0 {n e c k0 : Nat} {v w : Value} {vs x : List Value} {xs : List (List Value)} {f : Pt → List Pt} {g : List Pt} {a y : Operand} (ha : evA A a = some (.pointer (some ⟨bb v, oo v + k0 * e, none⟩))) (hy : evA A y = some w) (hc : cellsV w = some vs) (hn : Nat.beq vs.length n = true) (hat : At O (.arr v e c xs) f g)
    (hx : xs[k0]? = some x) (ho : Nat.beq n e = true) (k : K undef Z (f (.arr v e c (xs.set k0 vs)))) : X F lo (.store n a y) N A Z O K := by
  have ho' := Nat.eq_of_beq_eq_true ho
  have hn' := Nat.eq_of_beq_eq_true hn
  intro R σ h hs m
  have hxl : x.length = e := by
    obtain ⟨b, sp, rfl, h1, h2, h3, h4, h5⟩ := (At.mem hat m).own _ List.mem_cons_self
    exact h5 x (List.mem_of_getElem? hx)
  refine X_storeArr (K := K) (o := 0) (by rw [Nat.add_zero]; exact ha) hy hc hn hat hx (Nat.ble_eq_true_of_le (by omega)) ?_ R σ h hs m
  rw [List.take_zero, List.nil_append, Nat.zero_add, List.drop_of_length_le (by omega), List.append_nil]
  exact k
theorem X_storeGro {n e k0 o : Nat} {v w : Value} {vs x : List Value} {xs : List (List Value)} {f : Pt → List Pt} {g : List Pt} {a y : Operand} (ha : evA A a = some (.pointer (some ⟨bb v, oo v + k0 * e + o, none⟩))) (hy : evA A y = some w) (hc : cellsV w = some vs) (hn : Nat.beq vs.length n = true) (hat : At O (.gro v e xs) f g)
    (hx : xs[k0]? = some x) (ho : Nat.ble (o + n) e = true) (k : K undef Z (f (.gro v e (xs.set k0 (x.take o ++ (vs ++ x.drop (o + n))))))) : X F lo (.store n a y) N A Z O K :=
  fun R σ h hs m => by
    have hn := Nat.eq_of_beq_eq_true hn
    have ho := Nat.le_of_ble_eq_true ho
    subst hn
    have m1 := At.mem hat m
    obtain ⟨h5, he, ⟨rfl, rfl⟩ | ⟨b, c, fl, rfl, h1, h2, h3, h4⟩⟩ := m1.own _ List.mem_cons_self
    · simp at hx
    have hle := flat_le h5 hx
    have hbnd : k0 * e + o + vs.length ≤ xs.flatten.length := by omega
    have hfs := flat_set (sp := []) ho h5 hx
    simp only [List.append_nil] at hfs
    have hxl := h5 x (List.mem_of_getElem? hx)
    refine ⟨0, undef, _, Z, _, ?_, .refl _, At.back hat (m1.setGro (xs' := xs.set k0 (x.take o ++ (vs ++ x.drop (o + vs.length)))) h2 h3 (by simp) (by simp) fun y hy => ?_), k⟩
    · rw [xo (by simp)]
      have ha' : evA A a = some (.pointer (some ⟨b, k0 * e + o, none⟩)) := by rw [ha]; simp [bb, oo]
      have hw : h.wr lo b (k0 * e + o) vs = some ((h.setB b (.row (xs.set k0 (x.take o ++ (vs ++ x.drop (o + vs.length)))).flatten (some c))).setC c (b, b)) := by
        unfold Heap.wr
        rw [cells_cls h2 h3 h4]
        simp only [if_pos hbnd, hfs]
        unfold Heap.put
        rw [if_neg (by omega), h2]
        simp only [h3, if_true]
      simp only [xop, evA_ok hs ha', evA_ok hs hy, hc, if_true, hw, Option.map_some]
    · rcases List.mem_or_eq_of_mem_set hy with hy | rfl
      · exact h5 y hy
      · exact patch_len hxl ho
theorem X_storeGro0 {n e k0 : Nat} {v w : Value} {vs x : List Value} {xs : List (List Value)} {f : Pt → List Pt} {g : List Pt} {a y : Operand} (ha : evA A a = some (.pointer (some ⟨bb v, oo v + k0 * e, none⟩))) (hy : evA A y = some w) (hc : cellsV w = some vs) (hn : Nat.beq vs.length n = true) (hat : At O (.gro v e xs) f g)
    (hx : xs[k0]? = some x) (ho : Nat.beq n e = true) (k : K undef Z (f (.gro v e (xs.set k0 vs)))) : X F lo (.store n a y) N A Z O K := by
  have ho' := Nat.eq_of_beq_eq_true ho
  have hn' := Nat.eq_of_beq_eq_true hn
  intro R σ h hs m
  have hxl : x.length = e := ((At.mem hat m).own _ List.mem_cons_self).1 x (List.mem_of_getElem? hx)
  refine X_storeGro (K := K) (o := 0) (by rw [Nat.add_zero]; exact ha) hy hc hn hat hx (Nat.ble_eq_true_of_le (by omega)) ?_ R σ h hs m
  rw [List.take_zero, List.nil_append, Nat.zero_add, List.drop_of_length_le (by omega), List.append_nil]
  exact k
/-! ### append -/
theorem newCells_of {h : Heap} {e : Nat} {v : Value} {ys : List (List Value)} (k : Reads h e v ys) : newCells h e v = some (ys.flatten, ys.length) := by
  obtain ⟨_, a, c, rfl, k3⟩ := k
  by_cases h0 : ys = []
  · subst h0
    cases a <;> simp [newCells]
  · obtain ⟨s, ha, hr⟩ := k3 h0
    have hl : ys.length ≠ 0 := fun e => h0 (List.length_eq_zero_iff.1 e)
    cases a with
    | none => cases ha
    | some a =>
      simp only [newCells, hl, if_false]
      simp only [bb, oo] at hr ⊢
      rw [hr]; rfl
theorem X_appendG {esz bytes : Nat} {s x : Operand} {v w : Value} {xs ys : List (List Value)} {f : Pt → List Pt} {g : List Pt} (hs : evA A s = some v) (hx : evA A x = some w) (hat : At O (.gro v esz xs) f g) (hw : Sees Z O esz w ys) (hb : (xs.length + ys.length) * bytes ≤ 2 ^ 44)
    (k : ∀ v', K v' Z (f (.gro v' esz (xs ++ ys)))) : X F lo (.append esz bytes s x) N A Z O K :=
  fun R σ h hσ m => by
    have hr := hw lo R h m
    have hnew := newCells_of hr
    have m1 := At.mem hat m
    obtain ⟨h5, he, hc⟩ := m1.own _ List.mem_cons_self
    have hall : ∀ z ∈ xs ++ ys, z.length = esz := fun z hz => by
      rcases List.mem_append.1 hz with hz | hz
      · exact h5 z hz
      · exact hr.1 z hz
    by_cases hy0 : ys = []
    · -- nothing is appended
      subst hy0
      refine ⟨0, v, h, Z, f (.gro v esz xs), ?_, .refl _, At.back hat m1, by simpa using k v⟩
      rw [xo (by simp)]
      simp only [xop, evA_ok hσ hs, evA_ok hσ hx]
      rcases hc with ⟨rfl, rfl⟩ | ⟨b, c, fl, rfl, h1, h2, h3, h4⟩
      · unfold appendOf; simp only [hnew]; simp
      · unfold appendOf; simp only [hnew]; simp
    · have hyl : 0 < ys.length := List.length_pos_iff.2 hy0
      rcases hc with ⟨rfl, rfl⟩ | ⟨b, c, fl, rfl, h1, h2, h3, h4⟩
      · refine ⟨0, .slice (some ⟨h.n, 0, some esz⟩) ys.length ys.length, h.newC ys.flatten, Z, _, ?_, .refl _, At.back hat ((m1.drop).newC he (xs := ys) hr.1), by simpa using k _⟩
        rw [xo (by simp)]
        simp only [xop, evA_ok hσ hs, evA_ok hσ hx]
        unfold appendOf
        simp only [hnew]
        simp only [List.length_nil, Nat.zero_add] at hb ⊢
        rw [if_neg (by omega), if_pos hb]
        simp
      · have hfl : xs.flatten.length = xs.length * esz := flatten_len h5
        refine ⟨0, .slice (some ⟨h.n, 0, some esz⟩) (xs.length + ys.length) (xs.length + ys.length), h.extC c fl (xs.flatten ++ ys.flatten), Z, _, ?_, .refl _, At.back hat (o' := .gro (.slice (some ⟨h.n, 0, some esz⟩) (xs.length + ys.length) (xs.length + ys.length)) esz (xs ++ ys)) ?_, k _⟩
        · rw [xo (by simp)]
          simp only [xop, evA_ok hσ hs, evA_ok hσ hx]
          unfold appendOf
          simp only [hnew]
          have hrd : h.rd b 0 (xs.length * esz) = some xs.flatten := by
            rw [rd_of (cells_cls h2 h3 h4) (by rw [hfl]; omega), List.drop_zero, ← hfl, List.take_length]
          rw [if_neg (by omega), if_pos hb, if_neg (by simp; omega)]
          simp only [h2, hrd, h3, if_true, hfl, Nat.zero_add]
        · have := m1.extC h3 (fl' := fl) (by have := (m1.own _ List.mem_cons_self).lt (b := b) rfl; omega) hall
          rw [List.length_append, List.flatten_append] at this
          exact this
theorem X_appendNil {esz bytes : Nat} {s x : Operand} {w : Value} {ys : List (List Value)} (he : Nat.blt 0 esz = true) (hs : evA A s = some (.slice none 0 0)) (hx : evA A x = some w) (hw : Sees Z O esz w ys) (hb : ys.length * bytes ≤ 2 ^ 44)
    (k : ∀ v', K v' Z (.gro v' esz ys :: O)) : X F lo (.append esz bytes s x) N A Z O K := by
  intro R σ h hσ m
  have he : 0 < esz := by simpa using he
  have hw' : Sees Z (.gro (.slice none 0 0) esz [] :: O) esz w ys := fun lo R h m => hw lo R h m.drop
  exact X_appendG (K := K) hs hx (At.here (S := O)) hw' (by simpa using hb) (fun v' => by simpa using k v') R σ h hσ (m.gro0 he)
/-- A full slice of a known capacity is copied. -/
theorem X_appendA {esz bytes c : Nat} {s x : Operand} {v w : Value} {xs ys : List (List Value)} {f : Pt → List Pt} {g : List Pt} (he : Nat.blt 0 esz = true) (hs : evA A s = some v) (hx : evA A x = some w) (hat : At O (.arr v esz c xs) f g) (hw : Sees Z O esz w ys) (hc : c < xs.length + ys.length) (hb : (xs.length + ys.length) * bytes ≤ 2 ^ 44)
    (k : ∀ v', K v' Z (.gro v' esz (xs ++ ys) :: O)) : X F lo (.append esz bytes s x) N A Z O K :=
  fun R σ h hσ m => by
    have he : 0 < esz := by simpa using he
    have hr := hw lo R h m
    have hnew := newCells_of hr
    obtain ⟨b, sp, rfl, h1, h2, h3, h4, h5⟩ := (At.mem hat m).own _ List.mem_cons_self
    have hfl : xs.flatten.length = xs.length * esz := flatten_len h5
    have hall : ∀ z ∈ xs ++ ys, z.length = esz := fun z hz => by
      rcases List.mem_append.1 hz with hz | hz
      · exact h5 z hz
      · exact hr.1 z hz
    have hm := m.newC he hall
    rw [List.length_append, List.flatten_append] at hm
    refine ⟨0, .slice (some ⟨h.n, 0, some esz⟩) (xs.length + ys.length) (xs.length + ys.length), h.newC (xs.flatten ++ ys.flatten), Z, _ :: O, ?_, .refl _, hm, k _⟩
    rw [xo (by simp)]
    simp only [xop, evA_ok hσ hs, evA_ok hσ hx]
    unfold appendOf
    simp only [hnew]
    have hrd : h.rd b 0 (xs.length * esz) = some xs.flatten := by
      rw [rd_of (cells_row h2) (by rw [List.length_append, hfl]; omega), List.drop_zero, ← hfl, List.take_left]
    rw [if_neg (by omega), if_pos hb]
    simp only [hrd]
/-- There is room. -/
theorem X_appendR {esz bytes c : Nat} {s x : Operand} {v w : Value} {xs ys : List (List Value)} {f : Pt → List Pt} {g : List Pt} (hs : evA A s = some v) (hx : evA A x = some w) (hat : At O (.arr v esz c xs) f g) (hw : Sees Z O esz w ys) (hc : xs.length + ys.length ≤ c)
    (k : ∀ v', K v' Z (f (.arr v' esz c (xs ++ ys)))) : X F lo (.append esz bytes s x) N A Z O K :=
  fun R σ h hσ m => by
    have hr := hw lo R h m
    have hnew := newCells_of hr
    have m1 := At.mem hat m
    obtain ⟨b, sp, rfl, h1, h2, h3, h4, h5⟩ := m1.own _ List.mem_cons_self
    have hfl : xs.flatten.length = xs.length * esz := flatten_len h5
    have hyl : ys.flatten.length = ys.length * esz := flatten_len hr.1
    have hsub : (c - xs.length) * esz = (c - (xs.length + ys.length)) * esz + ys.length * esz := by rw [← Nat.add_mul]; congr 1; omega
    have hall : ∀ z ∈ xs ++ ys, z.length = esz := fun z hz => by
      rcases List.mem_append.1 hz with hz | hz
      · exact h5 z hz
      · exact hr.1 z hz
    by_cases hy0 : ys = []
    · subst hy0
      refine ⟨0, .slice (some ⟨b, 0, none⟩) xs.length c, h, Z, f (.arr (.slice (some ⟨b, 0, none⟩) xs.length c) esz c xs), ?_, .refl _, At.back hat m1, by simpa using k (.slice (some ⟨b, 0, none⟩) xs.length c)⟩
      rw [xo (by simp)]
      simp only [xop, evA_ok hσ hs, evA_ok hσ hx]
      unfold appendOf; simp only [hnew]; simp [h3]
    · have hyl0 : 0 < ys.length := List.length_pos_iff.2 hy0
      have hbnd : xs.length * esz + ys.flatten.length ≤ (xs.flatten ++ sp).length := by rw [List.length_append, hfl, h4, hyl, hsub]; omega
      have hw := wr_row (o := xs.length * esz) (vs := ys.flatten) h2 h1 hbnd
      have e1 : (xs.flatten ++ sp).take (xs.length * esz) = xs.flatten := by rw [← hfl, List.take_left]
      have e2 : (xs.flatten ++ sp).drop (xs.length * esz + ys.flatten.length) = sp.drop ys.flatten.length := by rw [← hfl, List.drop_length_add_append]
      rw [e1, e2] at hw
      refine ⟨0, .slice (some ⟨b, 0, none⟩) (xs.length + ys.length) c, _, Z, _, ?_, .refl _, At.back hat (m1.setRow (o' := .arr (.slice (some ⟨b, 0, none⟩) (xs.length + ys.length) c) esz c (xs ++ ys)) (b := b) rfl rfl h2 (cs' := xs.flatten ++ (ys.flatten ++ sp.drop ys.flatten.length)) ?_), k _⟩
      · rw [xo (by simp)]
        simp only [xop, evA_ok hσ hs, evA_ok hσ hx]
        unfold appendOf
        simp only [hnew]
        rw [if_pos hc]
        simp only [Nat.zero_add, hw, Option.map_some]
        rw [if_neg (by omega)]
      · refine ⟨b, sp.drop ys.flatten.length, by simp, h1, by rw [Heap.get_setB h2, if_pos rfl]; simp, by simpa using hc, by rw [List.length_drop, h4, hyl, List.length_append, hsub]; omega, hall⟩
/-! ### slicing what stands -/
theorem X_sliceZ {esz i0 j0 : Nat} {x : Operand} {l hi : Option Operand} {v : Value} {xs : List (List Value)} (hx : evA A x = some v) (hf : Fz Z esz v xs)
    (hl : (l = none ∧ i0 = 0) ∨ ∃ y k i, l = some y ∧ evA A y = some (.int k i) ∧ 0 ≤ i ∧ i.toNat = i0) (hh : (hi = none ∧ j0 = xs.length) ∨ ∃ y k j, hi = some y ∧ evA A y = some (.int k j) ∧ 0 ≤ j ∧ j.toNat = j0) (h1 : i0 ≤ j0) (h2 : j0 ≤ xs.length)
    (k : ∀ v', Fz Z esz v' ((xs.drop i0).take (j0 - i0)) → K v' Z O) : X F lo (.slice esz x l hi none) N A Z O K :=
  fun R σ h hσ m => by
    have key : ∃ v', sliceOf esz v (l.map (ev σ)) (hi.map (ev σ)) none = some v' ∧ Fz Z esz v' ((xs.drop i0).take (j0 - i0)) := by
      have sl : seen (l.map (ev σ)) 0 = some i0 := by
        rcases hl with ⟨rfl, rfl⟩ | ⟨y, k, i, rfl, hy, h0, rfl⟩
        · rfl
        · simp [seen, evA_ok hσ hy, h0]
      have sh : seen (hi.map (ev σ)) xs.length = some j0 := by
        rcases hh with ⟨rfl, rfl⟩ | ⟨y, k, j, rfl, hy, h0, rfl⟩
        · rfl
        · simp [seen, evA_ok hσ hy, h0]
      obtain ⟨hxl, ⟨rfl, rfl⟩ | ⟨b, o, s, c, cs, rfl, q1, q2, q3, q4, q5⟩⟩ := hf
      · have : j0 = 0 := by simpa using h2
        subst this
        have : i0 = 0 := by omega
        subst this
        refine ⟨.slice none 0 0, ?_, ⟨fun x hx => absurd hx (by simp), .inl ⟨rfl, by simp⟩⟩⟩
        have sh' : seen (hi.map (ev σ)) 0 = some 0 := sh
        have hs0 : seen (none : Option Value) 0 = some 0 := rfl
        simp only [sliceOf, hs0, sh', sl, Nat.le_refl, if_true, and_self]
      · have hlen : ((xs.drop i0).take (j0 - i0)).length = j0 - i0 := by simp; omega
        have hxl' : ∀ z ∈ (xs.drop i0).take (j0 - i0), z.length = esz := fun z hz => hxl z (List.mem_of_mem_drop (List.mem_of_mem_take hz))
        have hmul : i0 * esz + (j0 - i0) * esz = j0 * esz := by rw [← Nat.add_mul]; congr 1; omega
        have hjm : j0 * esz ≤ xs.length * esz := Nat.mul_le_mul_right _ h2
        have hflat : (cs.drop (o + i0 * esz)).take ((j0 - i0) * esz) = ((xs.drop i0).take (j0 - i0)).flatten := by
          rw [take_drop_sub q5 (by omega)]
          have e1 : xs.flatten.drop (i0 * esz) = (xs.drop i0).flatten := by
            have h3 : xs.flatten = (xs.take i0).flatten ++ (xs.drop i0).flatten := by rw [← List.flatten_append, List.take_append_drop]
            have h4 : ((xs.take i0).flatten).length = i0 * esz := by rw [flatten_len fun z hz => hxl z (List.mem_of_mem_take hz), List.length_take]; congr 1; omega
            rw [h3, ← h4, List.drop_left]
          rw [e1]
          have h3 : (xs.drop i0).flatten = ((xs.drop i0).take (j0 - i0)).flatten ++ ((xs.drop i0).drop (j0 - i0)).flatten := by rw [← List.flatten_append, List.take_append_drop]
          have h4 : (((xs.drop i0).take (j0 - i0)).flatten).length = (j0 - i0) * esz := by rw [flatten_len hxl', hlen]
          rw [h3, ← h4, List.take_left]
        have hmk : ∀ o', (o' = o + i0 * esz ∨ (c = i0 ∧ o' = o)) → ∀ s', (s' = none ∨ s' = some esz) → Fz Z esz (.slice (some ⟨b, o', s'⟩) (j0 - i0) (c - i0)) ((xs.drop i0).take (j0 - i0)) := fun o' ho' s' hs' => by
          rcases ho' with rfl | ⟨rfl, rfl⟩
          · refine ⟨hxl', .inr ⟨b, o + i0 * esz, s', c - i0, cs, ?_, by rw [hlen]; omega, hs', q3, by rw [hlen]; omega, by rw [hlen]; exact hflat⟩⟩
            rw [hlen]
          · have hj : j0 - c = 0 := by omega
            have hnil : (xs.drop c).take (j0 - c) = [] := by rw [hj, List.take_zero]
            rw [hnil, hj]
            exact ⟨fun x hx => absurd hx (by simp), .inr ⟨b, _, s', _, cs, rfl, by simp, hs', q3, by simp; omega, by simp⟩⟩
        have hs0 : seen (none : Option Value) c = some c := rfl
        rcases q2 with rfl | rfl
        · refine ⟨.slice (some ⟨b, if c = i0 then o else o + i0 * esz, none⟩) (j0 - i0) (c - i0), ?_, hmk _ ?_ _ (.inl rfl)⟩
          · simp only [sliceOf, hs0, sh, sl, Nat.le_refl, if_true]
            rw [if_pos ⟨by omega, h1⟩]
          · by_cases hc : c = i0
            · rw [if_pos hc]; exact .inr ⟨hc, rfl⟩
            · rw [if_neg hc]; exact .inl rfl
        · refine ⟨.slice (some ⟨b, o + i0 * esz, some esz⟩) (j0 - i0) (c - i0), ?_, hmk _ (.inl rfl) _ (.inr rfl)⟩
          simp only [sliceOf, hs0, sh, sl, Nat.le_refl, if_true]
          rw [if_pos ⟨by omega, h1⟩]
    obtain ⟨v', h1', h2'⟩ := key
    exact ⟨0, v', h, Z, O, by rw [xo (by simp)]; simp only [xop, evA_ok hσ hx, Option.map_none, h1', Option.map_some], .refl _, m, k v' h2'⟩
/-! ### maps -/
def findM (d : Hm.EqD) (k : Value) : List (Value × Value) → Option (Option Value)
  | [] => some none
  | (k', v) :: es => match eqv d k k' with
    | some true => some (some v)
    | some false => findM d k es
    | none => none
/-- An entry's place. -/
def placeM (d : EqD) (k : Value) : List (Value × Value) → Nat → Option (Option Nat)
  | [], _ => some none
  | (k', v) :: es, i => match eqv d k k' with
    | some true => some (some i)
    | some false => placeM d k es (i + 1)
    | none => none
theorem findM_ok {d : EqD} {k : Value} : ∀ {es : List (Value × Value × Nat)} {i : Nat} {r : Option Value}, findM d k (ents es) = some r → ∃ q, findL d k es i = some q ∧ q.map (·.2) = r
  | [], i, r, h => by cases h; exact ⟨none, rfl, rfl⟩
  | (k', v, a) :: es, i, r, h => by
    simp only [ents, List.map_cons, findM] at h
    simp only [findL]
    split at h
    · rename_i e; cases h; simp only [e]; exact ⟨_, rfl, rfl⟩
    · rename_i e; simp only [e]; exact findM_ok h
    · cases h
theorem placeM_ok {d : EqD} {k : Value} : ∀ {es : List (Value × Value × Nat)} {i : Nat} {r : Option Nat}, placeM d k (ents es) i = some r → ∃ q, findL d k es i = some q ∧ q.map (·.1) = r ∧ ∀ j v, q = some (j, v) → i ≤ j ∧ ∃ a, es[j - i]? = some a
  | [], i, r, h => by cases h; exact ⟨none, rfl, rfl, fun j v e => by cases e⟩
  | (k', v, a) :: es, i, r, h => by
    simp only [ents, List.map_cons, placeM] at h
    simp only [findL]
    split at h
    · rename_i e; cases h; simp only [e]
      exact ⟨_, rfl, rfl, fun j v e => by cases e; exact ⟨Nat.le_refl _, _, by rw [Nat.sub_self]; rfl⟩⟩
    · rename_i e; simp only [e]
      obtain ⟨q, q1, q2, q3⟩ := placeM_ok h
      refine ⟨q, q1, q2, fun j v e => ?_⟩
      obtain ⟨h1, a, h2⟩ := q3 j v e
      refine ⟨by omega, a, ?_⟩
      have : j - i = (j - (i + 1)) + 1 := by omega
      rw [this]; simpa using h2
    · cases h
theorem X_lookup {d : EqD} {zero : Value} {m0 k0 : Operand} {ok : Bool} {v kv : Value} {es : List (Value × Value)} {r : Option Value} {f : Pt → List Pt} {g : List Pt} (hm : evA A m0 = some v) (hk : evA A k0 = some kv) (hat : At O (.map v es) f g) (hko : keyOk d kv = true) (hf : findM d kv es = some r)
    (k : K (if ok then .tuple #[r.getD zero, .bool r.isSome] else r.getD zero) Z O) : X F lo (.lookup d zero m0 k0 ok) N A Z O K :=
  X_rds (by simp) (fun R σ h hσ m => by
    obtain ⟨b, es', t, rfl, h1, h2, rfl⟩ := m.own _ (At.isin hat)
    obtain ⟨q, q1, q2⟩ := findM_ok (i := 0) hf
    simp only [xop, evA_ok hσ hm, evA_ok hσ hk, Heap.entries, h2, hko, if_true, q1]
    cases q with
    | none => simp only [Option.map_none] at q2; subst q2; rfl
    | some p => simp only [Option.map_some] at q2; subst q2; rfl) k
def putM (kv x : Value) (es : List (Value × Value)) : Option Nat → List (Value × Value)
  | some i => es.set i (kv, x)
  | none => es ++ [(kv, x)]
theorem ents_set {es : List (Value × Value × Nat)} {i : Nat} {a : Value × Value × Nat} : ents (es.set i a) = (ents es).set i (a.1, a.2.1) := by simp [ents, List.map_set]
theorem X_mput {d : EqD} {m0 k0 x0 : Operand} {v kv x : Value} {es : List (Value × Value)} {r : Option Nat} {f : Pt → List Pt} {g : List Pt} (hm : evA A m0 = some v) (hk : evA A k0 = some kv) (hx : evA A x0 = some x) (hat : At O (.map v es) f g) (hko : keyOk d kv = true) (hf : placeM d kv es 0 = some r)
    (k : K undef Z (f (.map v (putM kv x es r)))) : X F lo (.mput d m0 k0 x0) N A Z O K :=
  fun R σ h hσ m => by
    have m1 := At.mem hat m
    obtain ⟨b, es', t, rfl, h1, h2, rfl⟩ := m1.own _ List.mem_cons_self
    obtain ⟨q, q1, q2, q3⟩ := placeM_ok hf
    have hlo : ¬ b < lo := by omega
    cases q with
    | none =>
      simp only [Option.map_none] at q2; subst q2
      refine ⟨0, undef, h.setB b (.map (es' ++ [(kv, x, t)]) (t + 1)), Z, _, ?_, .refl _, At.back hat (m1.setMap (o' := .map (.map (some b)) (putM kv x (ents es') none)) (b := b) rfl rfl h2 (fun cs c e => by cases e) ⟨b, _, _, rfl, h1, by rw [Heap.get_setB h2, if_pos rfl], by simp [ents, putM]⟩), k⟩
      rw [xo (by simp)]
      simp only [xop, evA_ok hσ hm, evA_ok hσ hk, evA_ok hσ hx, if_neg hlo, h2, hko, if_true, q1]
    | some p =>
      obtain ⟨i, w⟩ := p
      simp only [Option.map_some] at q2; subst q2
      obtain ⟨_, a, ha⟩ := q3 i w rfl
      rw [Nat.sub_zero] at ha
      obtain ⟨a1, a2, a3⟩ := a
      refine ⟨0, undef, h.setB b (.map (es'.set i (kv, x, a3)) t), Z, _, ?_, .refl _, At.back hat (m1.setMap (o' := .map (.map (some b)) (putM kv x (ents es') (some i))) (b := b) rfl rfl h2 (fun cs c e => by cases e) ⟨b, _, _, rfl, h1, by rw [Heap.get_setB h2, if_pos rfl], by rw [ents_set]; rfl⟩), k⟩
      rw [xo (by simp)]
      simp only [xop, evA_ok hσ hm, evA_ok hσ hk, evA_ok hσ hx, if_neg hlo, h2, hko, if_true, q1, ha]
theorem X_lenm {m0 : Operand} {v : Value} {es : List (Value × Value)} {f : Pt → List Pt} {g : List Pt} (hm : evA A m0 = some v) (hat : At O (.map v es) f g) (k : K (.int .i64 es.length) Z O) : X F lo (.lenm m0) N A Z O K :=
  X_rds (by simp) (fun R σ h hσ m => by
    obtain ⟨b, es', t, rfl, h1, h2, rfl⟩ := m.own _ (At.isin hat)
    simp only [xop, evA_ok hσ hm, h2]
    simp [ents]) k
/-! ### calls -/
theorem X_call {f : Operand} {args : List Operand} {k : Nat} {first captured : Array Value} {vs : List Value} {O1 : List Pt} (hf : evA A f = some (.func (.func k) first captured)) (ha : evsA A args = some vs) (O2 : List Pt) (hO : ∀ R, (O ++ R).Perm (O1 ++ (O2 ++ R)))
    (kk : Call F lo k ((first.toList ++ vs) ++ captured.toList) Z O1 fun v Z' O1' => K v Z' (O1' ++ O2)) : X F lo (.call f args) N A Z O K := by
  intro R σ h hs m
  obtain ⟨n, v, h', Z', O', k1, z1, m1, k2⟩ := kk (O2 ++ R) h (m.perm (hO R))
  refine ⟨n, v, h', Z', O' ++ O2, ?_, z1, by rw [List.append_assoc]; exact m1, k2⟩
  simp only [xoper, callee, evA_ok hs hf, evsA_ok hs ha, k1]
/-- A call of a named function that changes none of the call's own. -/
theorem X_call0 {args : List Operand} {k : Nat} {vs : List Value} (ha : evsA A args = some vs) (kk : Call F lo k vs Z [] fun v Z' O1' => K v Z' (O1' ++ O)) : X F lo (.call (.func k) args) N A Z O K :=
  X_call (f := .func k) (O1 := []) rfl ha O (fun R => by simp) (by simpa using kk)
/-- A call of a named function that changes one of the call's own. -/
theorem X_call1 {args : List Operand} {k : Nat} {vs : List Value} {o : Pt} {f : Pt → List Pt} {g : List Pt} (ha : evsA A args = some vs) (hat : At O o f g) (kk : Call F lo k vs Z [o] fun v Z' O1' => K v Z' (O1' ++ g)) : X F lo (.call (.func k) args) N A Z O K :=
  X_call (f := .func k) (O1 := [o]) rfl ha g (fun R => (At.append (R := R) hat).perm.1) (by simpa using kk)
/-! ### values that memory can hold, opaque slices among them -/
def Cel (Z : Vw) (O : List Pt) (v : Value) (vs : List Value) : Prop := ∀ lo R h, Mem lo Z (O ++ R) h → cellsV v = some vs
theorem Cel.val {v : Value} {vs : List Value} (hc : cellsV v = some vs) : Cel Z O v vs := fun _ _ _ _ => hc
theorem Cel.sees {e : Nat} {v : Value} {xs : List (List Value)} (hs : Sees Z O e v xs) : Cel Z O v [v] := fun lo R h m => by
  obtain ⟨a, c, rfl⟩ := hs.slice m; rfl
theorem Cel.map {v : Value} {es : List (Value × Value)} {f : Pt → List Pt} {g : List Pt} (hat : At O (.map v es) f g) : Cel Z O v [v] := fun lo R h m => by
  obtain ⟨b, es', t, rfl, _⟩ := m.own _ (At.isin hat); rfl
theorem X_boxC {x : Operand} {v : Value} {cs : List Value} (hx : evA A x = some v) (hc : Cel Z O v cs) (k : ∀ b, K (.pointer (some ⟨b, 0, none⟩)) Z (.box b cs :: O)) : X F lo (.box x) N A Z O K :=
  fun R σ h hs m => X_box (K := K) hx (hc lo R h m) k R σ h hs m
theorem X_storeBC {n b o : Nat} {v : Value} {vs cs cs' : List Value} {f : Pt → List Pt} {g : List Pt} {a x : Operand} (ha : evA A a = some (.pointer (some ⟨b, o, none⟩))) (hx : evA A x = some v) (hc : Cel Z O v vs) (hn : Nat.beq vs.length n = true) (hat : At O (.box b cs) f g) (ho : Nat.ble (o + n) cs.length = true)
    (hcs : cs.take o ++ (vs ++ cs.drop (o + n)) = cs') (k : K undef Z (f (.box b cs'))) : X F lo (.store n a x) N A Z O K :=
  fun R σ h hs m => X_storeB (K := K) ha hx (hc lo R h m) hn hat ho hcs k R σ h hs m
theorem X_storeArrC {n e c k0 o : Nat} {v w : Value} {vs x : List Value} {xs : List (List Value)} {f : Pt → List Pt} {g : List Pt} {a y : Operand} (ha : evA A a = some (.pointer (some ⟨bb v, oo v + k0 * e + o, none⟩))) (hy : evA A y = some w) (hc : Cel Z O w vs) (hn : Nat.beq vs.length n = true) (hat : At O (.arr v e c xs) f g)
    (hx : xs[k0]? = some x) (ho : Nat.ble (o + n) e = true) (k : K undef Z (f (.arr v e c (xs.set k0 (x.take o ++ (vs ++ x.drop (o + n))))))) : X F lo (.store n a y) N A Z O K :=
  fun R σ h hs m => X_storeArr (K := K) ha hy (hc lo R h m) hn hat hx ho k R σ h hs m
theorem X_storeArr0C {n e c k0 : Nat} {v w : Value} {vs x : List Value} {xs : List (List Value)} {f : Pt → List Pt} {g : List Pt} {a y : Operand} (ha : evA A a = some (.pointer (some ⟨bb v, oo v + k0 * e, none⟩))) (hy : evA A y = some w) (hc : Cel Z O w vs) (hn : Nat.beq vs.length n = true) (hat : At O (.arr v e c xs) f g)
    (hx : xs[k0]? = some x) (ho : Nat.beq n e = true) (k : K undef Z (f (.arr v e c (xs.set k0 vs)))) : X F lo (.store n a y) N A Z O K :=
  fun R σ h hs m => X_storeArr0 (K := K) ha hy (hc lo R h m) hn hat hx ho k R σ h hs m
theorem X_storeGro0C {n e k0 : Nat} {v w : Value} {vs x : List Value} {xs : List (List Value)} {f : Pt → List Pt} {g : List Pt} {a y : Operand} (ha : evA A a = some (.pointer (some ⟨bb v, oo v + k0 * e, none⟩))) (hy : evA A y = some w) (hc : Cel Z O w vs) (hn : Nat.beq vs.length n = true) (hat : At O (.gro v e xs) f g)
    (hx : xs[k0]? = some x) (ho : Nat.beq n e = true) (k : K undef Z (f (.gro v e (xs.set k0 vs)))) : X F lo (.store n a y) N A Z O K :=
  fun R σ h hs m => X_storeGro0 (K := K) ha hy (hc lo R h m) hn hat hx ho k R σ h hs m
/-- Parts of an aggregate, as cells. -/
inductive Parts (A : Tab) (Z : Vw) (O : List Pt) : List (Nat × Nat × Operand) → List (Nat × Nat × List Value) → Prop
  | nil : Parts A Z O [] []
  | cons {o s : Nat} {x : Operand} {v : Value} {vs : List Value} {ps : List (Nat × Nat × Operand)} {r : List (Nat × Nat × List Value)} (hx : evA A x = some v) (hc : Cel Z O v vs) (k : Parts A Z O ps r) : Parts A Z O ((o, s, x) :: ps) ((o, s, vs) :: r)
def fillC : List Value → List (Nat × Nat × List Value) → Option (List Value)
  | cs, [] => some cs
  | cs, (off, size, vs) :: rest => match Nat.beq vs.length size, Nat.ble (off + size) cs.length with
    | true, true => fillC (cs.take off ++ (vs ++ cs.drop (off + size))) rest
    | _, _ => none
theorem Parts.fill {lo : Nat} {R : List Pt} {h : Heap} (m : Mem lo Z (O ++ R) h) {σ : List Value} (hs : Sl N A σ) : ∀ {ps : List (Nat × Nat × Operand)} {r : List (Nat × Nat × List Value)} {z cs : List Value}, Parts A Z O ps r → fillC z r = some cs → fillL z (ps.map fun p => (p.1, p.2.1, ev σ p.2.2)) = some cs := by
  intro ps r z cs hp
  induction hp generalizing z with
  | nil => exact fun h => h
  | cons hx hc k ih =>
    rename_i o s x v vs ps r
    intro hf
    simp only [fillC] at hf
    split at hf
    · rename_i h1 h2
      rw [List.map_cons]
      simp only [fillL, evA_ok hs hx, hc lo R h m]
      rw [if_pos ⟨Nat.eq_of_beq_eq_true h1, Nat.le_of_ble_eq_true h2⟩]
      exact ih hf
    · cases hf
theorem X_buildC {z : List Value} {parts : List (Nat × Nat × Operand)} {r : List (Nat × Nat × List Value)} {cs : List Value} (hp : Parts A Z O parts r) (hf : fillC z r = some cs) (k : K (.agg ⟨cs⟩) Z O) : X F lo (.build z parts) N A Z O K :=
  X_rds (by simp) (fun R σ h hs m => by simp only [xop, hp.fill m hs hf]) k
theorem X_bsliceC {esz len : Nat} {z : List Value} {parts : List (Nat × Operand)} {r : List (Nat × Nat × List Value)} {cs : List Value} {xs : List (List Value)} (hp : Parts A Z O (parts.map fun p => (p.1 * esz, esz, p.2)) r) (hf : fillC (List.replicate len z).flatten r = some cs) (hl : Nat.beq cs.length (len * esz) = true) (hxs : chunk esz len cs = xs)
    (k : ∀ v, K v Z (.arr v esz len xs :: O)) : X F lo (.bslice esz len z parts) N A Z O K :=
  fun R σ h hs m => by
    subst hxs
    obtain ⟨c1, c2, c3⟩ := chunk_ok (Nat.eq_of_beq_eq_true hl)
    have hm := m.arr (e := esz) (c := len) (xs := chunk esz len cs) (sp := []) c3 (by omega) (by simp [c2])
    rw [c2, c1, List.append_nil] at hm
    have hfill := hp.fill m hs hf
    rw [List.map_map] at hfill
    refine ⟨0, .slice (some ⟨h.n, 0, none⟩) len len, h.new cs, Z, _ :: O, ?_, .refl _, hm, k _⟩
    rw [xo (by simp)]
    simp only [xop]
    have : (parts.map fun p => (p.1 * esz, esz, ev σ p.2)) = List.map ((fun p : Nat × Nat × Operand => (p.1, p.2.1, ev σ p.2.2)) ∘ fun p : Nat × Operand => (p.1 * esz, esz, p.2)) parts := rfl
    rw [this, hfill]
/-! ### calls that leave nothing of their own -/
def CallP (F : Nat → Option HFn) (lo k : Nat) (vs : List Value) (Z : Vw) (Q : Value → Vw → Prop) : Prop := Call F lo k vs Z [] fun v Z' O' => O' = [] ∧ Q v Z'
theorem X_callP {args : List Operand} {k : Nat} {vs : List Value} {Q : Value → Vw → Prop} (ha : evsA A args = some vs) (hc : CallP F lo k vs Z Q) (kk : ∀ v Z', Z.le Z' → Q v Z' → K v Z' O) : X F lo (.call (.func k) args) N A Z O K :=
  X_call0 ha (hc.mono fun v Z' O' hz hq => by
    obtain ⟨rfl, hq⟩ := hq
    exact kk v Z' hz hq)
theorem CallP.mono {k : Nat} {vs : List Value} {Q Q' : Value → Vw → Prop} (hc : CallP F lo k vs Z Q) (hq : ∀ v Z', Z.le Z' → Q v Z' → Q' v Z') : CallP F lo k vs Z Q' :=
  Call.mono hc fun v Z' O' hz h => ⟨h.1, hq v Z' hz h.2⟩
theorem FnP {k : Nat} {fn : HFn} {vs : List Value} {Q : Value → Vw → Prop} (hF : F k = some fn) (hp : fn.prim = none) (hl : Nat.ble vs.length fn.ntmps = true) (hb : W F lo fn.body fn.ntmps (argsA 0 vs) Z [] (fnQ lo fn.res fun v Z' O' => O' = [] ∧ Q v Z')) : CallP F lo k vs Z Q := Fn hF hp hl hb
theorem fnP_ret {rs : List (Nat × Option (Option Nat))} {Q : Value → Vw → Prop} {l : List Value} (hr : Res A Z O rs l) (k : Q (tupled l) Z) : fnQ lo rs (fun v Z' O' => O' = [] ∧ Q v Z') .ret A Z O := fn_ret hr (Upd.nil ⟨rfl, k⟩)
theorem fnP_nrm {rs : List (Nat × Option (Option Nat))} {Q : Value → Vw → Prop} {l : List Value} (hr : Res A Z O rs l) (k : Q (tupled l) Z) : fnQ lo rs (fun v Z' O' => O' = [] ∧ Q v Z') .nrm A Z O := fn_nrm hr (Upd.nil ⟨rfl, k⟩)
theorem CallP_true {k : Nat} {Q : Value → Vw → Prop} (hF : F k = some fnTrue) (kk : Q (.bool true) Z) : CallP F lo k [] Z Q := Call_true hF ⟨rfl, kk⟩
end

end Go.Proofs.Ytbjgnogcjglcoaa.Hm.V
