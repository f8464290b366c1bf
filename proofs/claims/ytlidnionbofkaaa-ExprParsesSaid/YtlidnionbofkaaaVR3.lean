import Derived.Test.YtlidnionbofkaaaHF
import Derived.Test.YtlidnionbofkaaaA6
import Derived.Test.YtlidnionbofkaaaVR2
import Derived.Test.YtlidnionbofkaaaVQ6
namespace Go.Proofs.Ytlidnionbofkaaa.Hm.V
open Go
set_option linter.all false
set_option maxRecDepth 100000
attribute [local irreducible] X XG S R D W Call CallG Upd Rds Rck Sees Res Cel CallP fnQ fnG
instance TN.p1m {i : Nat} : TN ((i : Int) + 1 - 1) i := ⟨by omega⟩
instance TN.p11 {i : Nat} : TN ((i : Int) + 1 + 1) (i + 2) := ⟨by omega⟩
instance TN.p12 {i : Nat} : TN ((i : Int) + 1 + 2) (i + 3) := ⟨by omega⟩
instance TN.p121 {i : Nat} : TN ((i : Int) + 1 + 2 + 1) (i + 4) := ⟨by omega⟩
section
variable {T : List Tok} {nv : Tok → Int} {cp : Bool} {vs : List Vr} {rec : Prs}
theorem mem_dropT {i : Nat} {t : Tok} (h : t ∈ T.drop i) : t ∈ T := List.mem_of_mem_drop h
theorem pkS_len {T : List Tok} (h : ∀ u ∈ T, u.length < 1000000) (i : Nat) : (pkS (T.drop i)).length < 1000000 := by
  cases e : T.drop i with
  | nil => simp [pkS]
  | cons t r => exact h t (mem_dropT (i := i) (by rw [e]; simp))
theorem pk_lt {i : Nat} (h : pkK (T.drop i) ≠ 3) : i < T.length := by
  rcases Nat.lt_or_ge i T.length with h1 | h1
  · exact h1
  · rw [List.drop_of_length_le h1] at h; exact absurd rfl h
theorem hd_lt {i : Nat} {m : Tok} (h : (T.drop i).head? = some m) : i < T.length := by
  rcases Nat.lt_or_ge i T.length with h1 | h1
  · exact h1
  · rw [List.drop_of_length_le h1] at h; cases h
theorem adv_at (hg : [] ∉ T) {i : Nat} (hi : i < T.length) : advT (T.drop i) = some (T.drop (i + 1)) := by
  rw [dropG hi, advT_cons, if_neg]
  intro h
  cases e : T.drop (i + 1) with
  | nil => rw [e] at h; cases h
  | cons t r =>
    rw [e] at h
    have h : t = [] := by simpa using h
    exact hg (mem_dropT (i := i + 1) (by rw [e, h]; simp))
theorem takeT_hd (hg : [] ∉ T) {i : Nat} {m : Tok} (h : (T.drop i).head? = some m) : takeT m (T.drop i) = some (T.drop (i + 1)) := by
  have hi := hd_lt h
  rw [← adv_at hg hi]
  rw [dropG hi] at h ⊢
  have h : T.getD i default = m := by simpa using h
  rw [takeT]; exact if_pos h
theorem takeT_nh {L : List Tok} {m : Tok} (h : ¬ L.head? = some m) : takeT m L = none := by
  cases L with
  | nil => rfl
  | cons t r =>
    rw [takeT]
    exact if_neg fun e => h (by rw [e]; rfl)
theorem numT_0 (hg : [] ∉ T) {i : Nat} (h : pkK (T.drop i) = 0) : numT nv (T.drop i) = some (nv (pkS (T.drop i)), T.drop (i + 1)) := by
  have hi := pk_lt (by rw [h]; decide)
  have ha := adv_at hg hi
  obtain ⟨t, r, e, hn, hs⟩ := pkK_0 h
  rw [e] at ha ⊢
  simp only [numT, if_pos hn, ha]
  rfl
theorem numT_n {L : List Tok} (h : ¬ pkK L = 0) : numT nv L = none := by
  cases L with
  | nil => rfl
  | cons t r =>
    have hn : ¬ isNum t = true := fun e => h (by unfold pkK kindT; exact if_pos e)
    simp only [numT, if_neg hn]
theorem rd_r (hg : [] ∉ T) {i : Nat} (h : pkK (T.drop i) = 1) : readR nv cp vs rec (T.drop i) = readK nv cp rec (nameI vs (pkS (T.drop i))) (T.drop (i + 1)) := by
  have hi := pk_lt (by rw [h]; decide)
  have ha := adv_at hg hi
  obtain ⟨t, r, e, hn, hw, hs⟩ := pkK_1 h
  rw [e] at ha ⊢
  simp only [readR, ha]
  rfl
theorem argR_h (hg : [] ∉ T) {i : Nat} {n c : Int} (h : (T.drop i).head? = some [91]) : argR rec n c (T.drop i) = argK rec n c (T.drop (i + 1)) := by
  have hi := hd_lt h
  have ha := adv_at hg hi
  cases e : T.drop i with
  | nil => rw [e] at h; cases h
  | cons t r =>
    rw [e] at h ha
    have h : t = [91] := by simpa using h
    rw [argR, if_pos h]
    simp only [ha]
    rfl
theorem argR_nh {L : List Tok} {n c : Int} (h : ¬ L.head? = some [91]) : argR rec n c L = some (.mk 1 n c [], L) := by
  cases L with
  | nil => rfl
  | cons t r =>
    rw [argR]
    exact if_neg fun e => h (by rw [e]; rfl)
theorem nameI_f {t : Tok} {n : Int} (h : (n = -1 ∧ ∀ j, j < vs.length → (vs.getD j default).nm ≠ t) ∨ (∃ i : Nat, n = i ∧ i < vs.length ∧ (vs.getD i default).nm = t ∧ ∀ j, j < i → (vs.getD j default).nm ≠ t)) : nameI vs t = n := by
  rcases h with ⟨rfl, h⟩ | ⟨i, rfl, hi, h, hu⟩
  · exact nameI_no h
  · exact nameI_at hi h hu
theorem opT_mark {t : Tok} {op : Int} (h : opT t = some op) : kindT t = 2 ∧ t ≠ [63] := by
  unfold opT at h
  cases e : signL.find? fun p => decide (p.1 = t) with
  | none => rw [e] at h; cases h
  | some p =>
    have hm := List.mem_of_find?_eq_some e
    have hp : p.1 = t := by simpa using List.find?_some e
    subst hp
    have key : ∀ p ∈ signL, kindT p.1 = 2 ∧ p.1 ≠ [63] := by decide
    exact key p hm
theorem groupK_k {L : List Tok} {x : Ex} (h : ¬ pkK L = 2) : groupK rec x L = none := by
  cases L with
  | nil => rfl
  | cons t r =>
    have h : ¬ kindT t = 2 := h
    have h1 : ¬ t = [63] := fun e => h (by rw [e]; decide)
    rw [groupK, if_neg h1]
    cases e : opT t with
    | none => rfl
    | some op => exact absurd (opT_mark e).1 h
theorem groupK_q (hg : [] ∉ T) {i : Nat} {x : Ex} (h : pkK (T.drop i) = 2) (e : pkS (T.drop i) = [63]) : groupK rec x (T.drop i) = groupQ rec x (T.drop (i + 1)) := by
  have hi := pk_lt (by rw [h]; decide)
  have ha := adv_at hg hi
  obtain ⟨t, r, e1, hn, hw, hs⟩ := pkK_2 h
  rw [hs] at e
  rw [e1] at ha ⊢
  rw [groupK, if_pos e]
  simp only [ha]
theorem groupK_o (hg : [] ∉ T) {i : Nat} {x : Ex} {op : Int} (h : pkK (T.drop i) = 2) (e : ¬ pkS (T.drop i) = [63]) (e0 : opT (pkS (T.drop i)) = some op) : groupK rec x (T.drop i) = groupO rec op x (T.drop (i + 1)) := by
  have hi := pk_lt (by rw [h]; decide)
  have ha := adv_at hg hi
  obtain ⟨t, r, e1, hn, hw, hs⟩ := pkK_2 h
  rw [hs] at e e0
  rw [e1] at ha ⊢
  rw [groupK, if_neg e]
  simp only [ha, e0]
theorem groupK_on {i : Nat} {x : Ex} (h : pkK (T.drop i) = 2) (e : ¬ pkS (T.drop i) = [63]) (e0 : opT (pkS (T.drop i)) = none) : groupK rec x (T.drop i) = none := by
  obtain ⟨t, r, e1, hn, hw, hs⟩ := pkK_2 h
  rw [hs] at e e0
  rw [e1, groupK, if_neg e]
  simp only [e0]
theorem tk_0 (hg : [] ∉ T) {i : Nat} (h : pkK (T.drop i) = 0) : exprR nv cp vs rec (T.drop i) = some (.mk 0 (nv (pkS (T.drop i))) 0 [], T.drop (i + 1)) := by
  have h1 := numT_0 (nv := nv) hg h
  obtain ⟨t, r, e, hn, hs⟩ := pkK_0 h
  rw [e] at h1 ⊢
  have h2 : ¬ t = [126] := fun q => by rw [q] at hn; cases hn
  have h3 : ¬ t = [40] := fun q => by rw [q] at hn; cases hn
  have h4 : ¬ isWrd t = true := by
    cases t with
    | nil => simp [isWrd]
    | cons c t =>
      simp only [isNum, isDig, isWrd, isLet, decide_eq_true_eq] at hn ⊢
      omega
  rw [exprR, if_neg h2, if_neg h3, if_neg h4, h1]
theorem tk_1 {L : List Tok} (h : pkK L = 1) : exprR nv cp vs rec L = readR nv cp vs rec L := by
  obtain ⟨t, r, e, hn, hw, hs⟩ := pkK_1 h
  rw [e]
  have h2 : ¬ t = [126] := fun q => by rw [q] at hw; cases hw
  have h3 : ¬ t = [40] := fun q => by rw [q] at hw; cases hw
  rw [exprR, if_neg h2, if_neg h3, if_pos hw]
theorem tk_12 (hg : [] ∉ T) {i : Nat} (h : (T.drop i).head? = some [126]) : exprR nv cp vs rec (T.drop i) = exprK rec (T.drop (i + 1)) := by
  have hi := hd_lt h
  have ha := adv_at hg hi
  cases e : T.drop i with
  | nil => rw [e] at h; cases h
  | cons t r =>
    rw [e] at h ha
    have h : t = [126] := by simpa using h
    rw [exprR, if_pos h]
    simp only [ha]
    rfl
theorem tk_p (hg : [] ∉ T) {i : Nat} (h : (T.drop i).head? = some [40]) : exprR nv cp vs rec (T.drop i) = groupR rec (T.drop (i + 1)) := by
  have hi := hd_lt h
  have ha := adv_at hg hi
  cases e : T.drop i with
  | nil => rw [e] at h; cases h
  | cons t r =>
    rw [e] at h ha
    have h : t = [40] := by simpa using h
    rw [exprR, if_neg (by rw [h]; decide), if_pos h]
    simp only [ha]
theorem tk_n {L : List Tok} (h0 : ¬ pkK L = 0) (h1 : ¬ pkK L = 1) (h2 : ¬ L.head? = some [126]) (h3 : ¬ L.head? = some [40]) : exprR nv cp vs rec L = none := by
  have hn := numT_n (nv := nv) h0
  cases L with
  | nil => rfl
  | cons t r =>
    have h4 : ¬ isWrd t = true := fun q => h1 (by
      have hd : ¬ isNum t = true := fun q2 => h0 (by unfold pkK kindT; exact if_pos q2)
      show kindT t = 1
      unfold kindT
      rw [if_neg hd, if_pos q])
    rw [exprR, if_neg (fun q => h2 (by rw [q]; rfl)), if_neg (fun q => h3 (by rw [q]; rfl)), if_neg h4, hn]
end
def tkP (T : List Tok) (i : Nat) (res : Option (Ex × List Tok)) : Value → Vw → Prop := fun v Z => ∃ (t : Et) (j : Int) (ok : Bool), v = .tuple ⟨[.agg ⟨t.cs⟩, .int .i64 j, .bool ok]⟩ ∧ ((ok = true ∧ Tr Z t ∧ ∃ n : Nat, j = n ∧ n ≤ T.length ∧ i < n ∧ res = some (t.er, T.drop n)) ∨ (ok = false ∧ res = none))
def TkOK (F : Nat → Option HFn) (lo : Nat) (cpI : Int) (vv vt : Value) (vs : List Vr) (T : List Tok) (rec : Prs) (m : Nat) : Prop :=
  ∀ {i : Nat} {j : Int} [TN j i] {Z : Vw}, Fz Z 2 vt (T.map encT) → Vrs Z vv vs → 0 ≤ j → i ≤ T.length → T.length < i + m → CallP F lo 36 [vv, .int .i64 cpI, vt, .int .i64 j] Z (tkP T i (rec (T.drop i)))
theorem tk_no {T : List Tok} {i : Nat} {res : Option (Ex × List Tok)} {Z : Vw} (t : Et) {j : Int} (e : res = none) : tkP T i res (.tuple ⟨[.agg ⟨t.cs⟩, .int .i64 j, .bool false]⟩) Z := ⟨t, j, false, rfl, .inr ⟨rfl, e⟩⟩
theorem tk_yes {T : List Tok} {i : Nat} {res : Option (Ex × List Tok)} {Z : Vw} {t : Et} {j : Int} (n : Nat) (ht : Tr Z t) (hj : j = n) (h1 : n ≤ T.length) (h2 : i < n) (e : res = some (t.er, T.drop n)) : tkP T i res (.tuple ⟨[.agg ⟨t.cs⟩, .int .i64 j, .bool true]⟩) Z := ⟨t, j, true, rfl, .inl ⟨rfl, ht, n, hj, h1, h2, e⟩⟩
end Go.Proofs.Ytlidnionbofkaaa.Hm.V
