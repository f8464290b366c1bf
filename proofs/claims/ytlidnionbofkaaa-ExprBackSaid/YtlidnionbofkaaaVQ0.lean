import Derived.Test.YtlidnionbofkaaaHF
import Derived.Test.YtlidnionbofkaaaA6
import Derived.Test.YtlidnionbofkaaaVE2
namespace Go.Proofs.Ytlidnionbofkaaa.Hm.V
open Go
set_option linter.all false
set_option maxRecDepth 100000
attribute [local irreducible] X XG S R D W Call CallG Upd Rds Rck Sees Res Cel CallP fnQ fnG
section
variable {F : Nat → Option HFn} {lo N : Nat} {A : Tab} {Z : Vw} {O : List Pt} {K : Value → Vw → List Pt → Prop}
unseal Rds in
theorem xSlE {x y z : Operand} {s : List UInt8} {k1 k2 : IntKind} {i j : Int} {a : Nat} (b : Nat) [ta : TN i a] (hx : evA A x = some (.string ⟨⟨s⟩⟩)) (hy : evA A y = some (.int k1 i)) (hz : evA A z = some (.int k2 j)) (h0 : 0 ≤ i) (hb : j = (b : Int)) (h2 : a ≤ b) (h3 : b ≤ s.length) (k : K (.string ⟨⟨(s.drop a).take (b - a)⟩⟩) Z O) : X F lo (.slices x (some y) (some z)) N A Z O K :=
  X_rds (v := .string ⟨⟨(s.drop a).take (b - a)⟩⟩) (by simp) (fun R σ h hs m => by
    have e1 := ta.out
    have h1 : 0 ≤ j := by omega
    have e2 : j.toNat = b := by omega
    have hsz : (⟨⟨s⟩⟩ : ByteArray).size = s.length := rfl
    simp only [xop, xopE, evA_ok hs hx, Option.map_some, evA_ok hs hy, evA_ok hs hz, seen, if_pos h0, if_pos h1, e1, e2, hsz]
    rw [if_pos ⟨h3, h2⟩]) k
unseal Rds in
theorem X_mkif {t : TypeId} {x : Operand} {v : Value} (hx : evA A x = some v) (k : K (.iface t v) Z O) : X F lo (.mkif t x) N A Z O K :=
  X_rds (v := .iface t v) (by simp) (fun R σ h hs m => by simp only [xop, xopE, evA_ok hs hx]) k
unseal Rds in
theorem X_tassert {t : TypeId} {z : Value} {ok : Bool} {x : Operand} {v w : Value} (hx : evA A x = some v) (ht : tassertV t z ok v = some w) (k : K w Z O) : X F lo (.tassert t z ok x) N A Z O K :=
  X_rds (v := w) (by simp) (fun R σ h hs m => by simp only [xop, xopE, evA_ok hs hx, ht, Option.map_some]) k
end
abbrev Tok := List UInt8
def spanB (p : UInt8 → Bool) : List UInt8 → Nat
  | [] => 0
  | c :: cs => if p c = true then spanB p cs + 1 else 0
theorem spanB_le (p : UInt8 → Bool) : ∀ s, spanB p s ≤ s.length
  | [] => Nat.le_refl _
  | c :: cs => by
    have := spanB_le p cs
    unfold spanB
    split <;> simp <;> omega
def marksL : List Tok := [[60, 60], [62, 62], [61, 61], [64], [91], [93], [126], [40], [41], [63], [58], [43], [45], [42], [47], [37], [38], [124], [94], [60]]
def preB (m s : Tok) : Bool := decide (m.length ≤ s.length ∧ s.take m.length = m)
def markL (l : List Tok) (s : List UInt8) : Nat := match l.find? (preB · s) with
  | some m => m.length
  | none => 0
theorem markL_le (l : List Tok) (s : List UInt8) : markL l s ≤ s.length := by
  unfold markL
  split
  · rename_i m h
    have := List.find?_some h
    unfold preB at this
    simp only [decide_eq_true_eq] at this
    exact this.1
  · exact Nat.zero_le _
theorem marks_pos {m : Tok} (h : m ∈ marksL) : 0 < m.length := by
  revert m
  decide
theorem markL_step {l : List Tok} {m : Tok} {s : List UInt8} (hl : ∀ x ∈ l, 0 < x.length) : markL (l ++ [m]) s = if markL l s = 0 then (if preB m s = true then m.length else 0) else markL l s := by
  unfold markL
  rw [List.find?_append]
  cases e : l.find? (preB · s) with
  | some x =>
    have := hl x (List.mem_of_find?_eq_some e)
    simp only [Option.some_or]
    rw [if_neg (by omega)]
  | none =>
    simp only [Option.none_or, List.find?_cons, List.find?_nil, if_true]
    cases preB m s <;> simp
def tokN : List UInt8 → Nat
  | [] => 0
  | c :: cs => if c.toNat = 48 then 1 else if isDig c = true then spanB isDig (c :: cs) else if isLet c = true then spanB isNam (c :: cs) else markL marksL (c :: cs)
theorem tokN_le (s : List UInt8) : tokN s ≤ s.length := by
  cases s with
  | nil => exact Nat.le_refl _
  | cons c cs =>
    rw [tokN]
    split
    · simp
    · split
      · exact spanB_le _ _
      · split
        · exact spanB_le _ _
        · exact markL_le _ _
def lexF : Nat → List UInt8 → List Tok
  | 0, _ => []
  | f + 1, s => match s with
    | [] => []
    | c :: cs => if c.toNat = 32 then lexF f cs else if tokN (c :: cs) = 0 then [[]] else (c :: cs).take (tokN (c :: cs)) :: lexF f ((c :: cs).drop (tokN (c :: cs)))
theorem lexF_eq : ∀ (f g : Nat) (s : List UInt8), s.length ≤ f → s.length ≤ g → lexF f s = lexF g s
  | 0, g, s, h, _ => by
    have : s = [] := List.length_eq_zero_iff.1 (by omega)
    subst this
    cases g <;> rfl
  | f + 1, 0, s, _, h => by
    have : s = [] := List.length_eq_zero_iff.1 (by omega)
    subst this; rfl
  | f + 1, g + 1, s, h1, h2 => by
    cases s with
    | nil => rfl
    | cons c cs =>
      simp only [lexF]
      simp only [List.length_cons] at h1 h2
      split
      · exact lexF_eq f g cs (by omega) (by omega)
      · split
        · rfl
        · rename_i hn
          rw [lexF_eq f g _ (by rw [List.length_drop, List.length_cons]; omega) (by rw [List.length_drop, List.length_cons]; omega)]
def lexL (s : List UInt8) : List Tok := lexF s.length s
theorem lexL_nil : lexL [] = [] := rfl
theorem lexL_sp {c : UInt8} {cs : List UInt8} (h : c.toNat = 32) : lexL (c :: cs) = lexL cs := by
  unfold lexL
  rw [List.length_cons, lexF, if_pos h]
theorem lexL_bad {c : UInt8} {cs : List UInt8} (h : ¬ c.toNat = 32) (h0 : tokN (c :: cs) = 0) : lexL (c :: cs) = [[]] := by
  unfold lexL
  rw [List.length_cons, lexF, if_neg h, if_pos h0]
theorem lexL_tok {c : UInt8} {cs : List UInt8} (h : ¬ c.toNat = 32) (h0 : tokN (c :: cs) ≠ 0) : lexL (c :: cs) = (c :: cs).take (tokN (c :: cs)) :: lexL ((c :: cs).drop (tokN (c :: cs))) := by
  unfold lexL
  rw [List.length_cons, lexF, if_neg h, if_neg h0, lexF_eq _ _ _ (by rw [List.length_drop, List.length_cons]; omega) (Nat.le_refl _)]
theorem drop_at' {s : List UInt8} {i : Nat} (h : i < s.length) : s.drop i = s.getD i default :: s.drop (i + 1) := by
  rw [getD_eq h, ← List.drop_eq_getElem_cons h]
theorem lexA_end {s : List UInt8} {i : Nat} (h : s.length ≤ i) : lexL (s.drop i) = [] := by rw [List.drop_of_length_le h]; rfl
theorem lexA_sp {s : List UInt8} {i : Nat} (h : i < s.length) (h2 : (s.getD i default).toNat = 32) : lexL (s.drop i) = lexL (s.drop (i + 1)) := by rw [drop_at' h, lexL_sp h2]
theorem lexA_bad {s : List UInt8} {i : Nat} (h : i < s.length) (h2 : ¬ (s.getD i default).toNat = 32) (h0 : tokN (s.drop i) = 0) : lexL (s.drop i) = [[]] := by
  rw [drop_at' h] at h0 ⊢
  exact lexL_bad h2 h0
theorem lexA_tok {s : List UInt8} {i : Nat} (h : i < s.length) (h2 : ¬ (s.getD i default).toNat = 32) (h0 : tokN (s.drop i) ≠ 0) : lexL (s.drop i) = (s.drop i).take (tokN (s.drop i)) :: lexL (s.drop (i + tokN (s.drop i))) := by
  rw [← List.drop_drop]
  rw [drop_at' h] at h0 ⊢
  exact lexL_tok h2 h0
theorem tokA_le {s : List UInt8} {i : Nat} (h : i ≤ s.length) : i + tokN (s.drop i) ≤ s.length := by
  have := tokN_le (s.drop i)
  rw [List.length_drop] at this
  omega
theorem tokA_48 {s : List UInt8} {i : Nat} (h : i < s.length) (h2 : (s.getD i default).toNat = 48) : tokN (s.drop i) = 1 := by rw [drop_at' h, tokN, if_pos h2]
theorem tokA_dig {s : List UInt8} {i : Nat} (h : i < s.length) (h2 : ¬ (s.getD i default).toNat = 48) (h3 : isDig (s.getD i default) = true) : tokN (s.drop i) = spanB isDig (s.drop i) := by rw [drop_at' h, tokN, if_neg h2, if_pos h3]
theorem tokA_let {s : List UInt8} {i : Nat} (h : i < s.length) (h2 : ¬ isDig (s.getD i default) = true) (h3 : isLet (s.getD i default) = true) : tokN (s.drop i) = spanB isNam (s.drop i) := by
  rw [drop_at' h, tokN, if_neg (fun e => h2 (by unfold isDig; simp only [decide_eq_true_eq]; omega)), if_neg h2, if_pos h3]
theorem tokA_mark {s : List UInt8} {i : Nat} (h : i < s.length) (h2 : ¬ isDig (s.getD i default) = true) (h3 : ¬ isLet (s.getD i default) = true) : tokN (s.drop i) = markL marksL (s.drop i) := by
  rw [drop_at' h, tokN, if_neg (fun e => h2 (by unfold isDig; simp only [decide_eq_true_eq]; omega)), if_neg h2, if_neg h3]
theorem spanA_step {p : UInt8 → Bool} {s : List UInt8} {i : Nat} (h : i < s.length) : spanB p (s.drop i) = if p (s.getD i default) = true then spanB p (s.drop (i + 1)) + 1 else 0 := by rw [drop_at' h, spanB]
theorem spanA_end {p : UInt8 → Bool} {s : List UInt8} {i : Nat} (h : s.length ≤ i) : spanB p (s.drop i) = 0 := by rw [List.drop_of_length_le h]; rfl
theorem preA {m s : List UInt8} {i : Nat} (hi : i ≤ s.length) : preB m (s.drop i) = true ↔ (m.length : Int) ≤ (s.length : Int) - i ∧ (s.drop i).take m.length = m := by
  unfold preB
  rw [decide_eq_true_eq, List.length_drop]
  constructor
  · rintro ⟨h1, h2⟩; exact ⟨by omega, h2⟩
  · rintro ⟨h1, h2⟩; exact ⟨by omega, h2⟩
def isNum : Tok → Bool
  | c :: _ => isDig c
  | [] => false
def isWrd : Tok → Bool
  | c :: _ => isLet c
  | [] => false
def advT : List Tok → Option (List Tok)
  | [] => none
  | [_] => some []
  | _ :: t :: r => if t = [] then none else some (t :: r)
def takeT (m : Tok) (L : List Tok) : Option (List Tok) := match L with
  | [] => none
  | t :: r => if t = m then advT (t :: r) else none
def signL : List (Tok × Int) := [([43], 2), ([45], 3), ([42], 4), ([47], 5), ([37], 6), ([38], 7), ([124], 8), ([94], 9), ([60, 60], 10), ([62, 62], 11), ([61, 61], 13), ([60], 14)]
def opT (t : Tok) : Option Int := (signL.find? fun p => decide (p.1 = t)).map (·.2)
def nameI (vs : List Vr) (t : Tok) : Int := match vs.findIdx? (fun v => decide (v.nm = t)) with
  | some i => i
  | none => -1
abbrev Prs := List Tok → Option (Ex × List Tok)
def argR (rec : Prs) (n c : Int) (L : List Tok) : Option (Ex × List Tok) := match L with
  | [] => some (.mk 1 n c [], [])
  | u :: r => if u = [91] then (match advT (u :: r) with
      | none => none
      | some L4 => match rec L4 with
        | none => none
        | some (a, L5) => match takeT [93] L5 with
          | none => none
          | some L6 => some (.mk 1 n c [a], L6))
    else some (.mk 1 n c [], u :: r)
def numT (nv : Tok → Int) (L : List Tok) : Option (Int × List Tok) := match L with
  | [] => none
  | u :: r => if isNum u = true then (match advT (u :: r) with
      | none => none
      | some L1 => some (nv u, L1)) else none
def readR (nv : Tok → Int) (cp : Bool) (vs : List Vr) (rec : Prs) (L : List Tok) : Option (Ex × List Tok) := match L with
  | [] => none
  | t :: r => match advT (t :: r) with
    | none => none
    | some L1 => match cp with
      | true => (match takeT [64] L1 with
        | none => none
        | some L2 => match numT nv L2 with
          | none => none
          | some (c, L3) => argR rec (nameI vs t) c L3)
      | false => if L1.head? = some [64] then none else argR rec (nameI vs t) 0 L1
def groupR (rec : Prs) (L : List Tok) : Option (Ex × List Tok) := match rec L with
  | none => none
  | some (a, L2) => match L2 with
    | [] => none
    | u :: r => if u = [63] then (match advT (u :: r) with
        | none => none
        | some L3 => match rec L3 with
          | none => none
          | some (b, L4) => match takeT [58] L4 with
            | none => none
            | some L5 => match rec L5 with
              | none => none
              | some (c, L6) => match takeT [41] L6 with
                | none => none
                | some L7 => some (.mk 15 0 0 [a, b, c], L7))
      else match opT u with
        | none => none
        | some op => match advT (u :: r) with
          | none => none
          | some L3 => match rec L3 with
            | none => none
            | some (b, L4) => match takeT [41] L4 with
              | none => none
              | some L5 => some (.mk op 0 0 [a, b], L5)
def exprR (nv : Tok → Int) (cp : Bool) (vs : List Vr) (rec : Prs) (L : List Tok) : Option (Ex × List Tok) := match L with
  | [] => none
  | t :: r => if t = [126] then (match advT (t :: r) with
      | none => none
      | some L1 => match rec L1 with
        | none => none
        | some (a, L2) => some (.mk 12 0 0 [a], L2))
    else if t = [40] then (match advT (t :: r) with
      | none => none
      | some L1 => groupR rec L1)
    else if isWrd t = true then readR nv cp vs rec (t :: r)
    else match numT nv (t :: r) with
      | none => none
      | some (n, L1) => some (.mk 0 n 0 [], L1)
def exprF (nv : Tok → Int) (cp : Bool) (vs : List Vr) : Nat → Prs
  | 0 => fun _ => none
  | f + 1 => exprR nv cp vs (exprF nv cp vs f)
theorem advT_len {L L1 : List Tok} (h : advT L = some L1) : L1.length + 1 = L.length := by
  cases L with
  | nil => cases h
  | cons t r => cases r with
    | nil => cases h; rfl
    | cons u r =>
      simp only [advT] at h
      split at h
      · cases h
      · cases h; rfl
theorem takeT_len {m : Tok} {L L1 : List Tok} (h : takeT m L = some L1) : L1.length + 1 = L.length := by
  unfold takeT at h
  split at h
  · cases h
  · split at h
    · exact advT_len h
    · cases h
theorem numT_len {nv : Tok → Int} {L L1 : List Tok} {n : Int} (h : numT nv L = some (n, L1)) : L1.length + 1 = L.length := by
  unfold numT at h
  split at h
  · cases h
  · split at h
    · split at h
      · cases h
      · rename_i e; cases h; exact advT_len e
    · cases h
end Go.Proofs.Ytlidnionbofkaaa.Hm.V
