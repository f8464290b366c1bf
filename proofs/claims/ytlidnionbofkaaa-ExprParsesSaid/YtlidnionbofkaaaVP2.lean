import Derived.Test.YtlidnionbofkaaaHF
import Derived.Test.YtlidnionbofkaaaA6
import Derived.Test.YtlidnionbofkaaaVP1
import Derived.Test.YtlidnionbofkaaaVR2
namespace Go.Proofs.Ytlidnionbofkaaa.Hm.V
open Go
set_option linter.all false
set_option maxRecDepth 100000
attribute [local irreducible] X XG S R D W Call CallG Upd Rds Rck Sees Res Cel CallP fnQ fnG
def bigF (n : Int) : Int := if 1000000000 ≤ n then -1 else n
theorem dgV_dig {c : UInt8} (h : isDig c = true) : dgV c = (c.toNat : Int) - 48 := by
  unfold isDig at h
  simp only [decide_eq_true_eq] at h
  unfold dgV
  omega
theorem foldS_eq : ∀ (t : Tok) (n : Int), 0 ≤ n → t.foldl numF n < 1099511627776 → t.foldl numS n = t.foldl numF n
  | [], n, _, _ => rfl
  | c :: t, n, h0, h => by
    have hd := dgV_le c
    rw [List.foldl_cons] at h
    have hge : ∀ (t : Tok) (m : Int), 0 ≤ m → m ≤ t.foldl numF m := by
      intro t
      induction t with
      | nil => intro m _; exact Int.le_refl _
      | cons c t ih =>
        intro m hm
        have hd := dgV_le c
        rw [List.foldl_cons]
        have := ih (numF m c) (by unfold numF; omega)
        unfold numF at this ⊢
        omega
    have h1 := hge t (numF n c) (by unfold numF; omega)
    have h2 : numS n c = numF n c := by
      unfold numS
      unfold numF at h1 h
      rw [if_pos (by omega)]; rfl
    rw [List.foldl_cons, List.foldl_cons, h2]
    exact foldS_eq t _ (by unfold numF; omega) h
theorem foldF_lt : ∀ (t : Tok) (n : Int), (∀ c ∈ t, isDig c = true) → 0 ≤ n → t.foldl numF n < (n + 1) * 10 ^ t.length
  | [], n, _, h0 => by simp; omega
  | c :: t, n, hc, h0 => by
    have hd := dgV_dig (hc c (by simp))
    have hd2 := hc c (by simp)
    unfold isDig at hd2
    simp only [decide_eq_true_eq] at hd2
    have ih := foldF_lt t (numF n c) (fun x hx => hc x (by simp [hx])) (by unfold numF; omega)
    rw [List.foldl_cons, List.length_cons, Int.pow_succ]
    have hp : (0 : Int) ≤ 10 ^ t.length := Int.pow_nonneg (by omega)
    have h3 : (numF n c + 1) * 10 ^ t.length ≤ (10 * (n + 1)) * 10 ^ t.length := Int.mul_le_mul_of_nonneg_right (by unfold numF; omega) hp
    have h4 : (n + 1) * (10 ^ t.length * 10) = (10 * (n + 1)) * 10 ^ t.length := by
      rw [Int.mul_comm (10 ^ t.length) 10, ← Int.mul_assoc, Int.mul_comm (n + 1) 10]
    omega
theorem foldS_ge : ∀ (t : Tok) (n : Int), (∀ c ∈ t, isDig c = true) → 1 ≤ n → n ≤ 1099511627776 → 1000000000 ≤ n * 10 ^ t.length → 1000000000 ≤ t.foldl numS n
  | [], n, _, h0, h1, h => by simpa using h
  | c :: t, n, hc, h0, h1, h => by
    have hd := dgV_dig (hc c (by simp))
    have hd2 := hc c (by simp)
    unfold isDig at hd2
    simp only [decide_eq_true_eq] at hd2
    rw [List.foldl_cons]
    have hp : (1 : Int) ≤ 10 ^ t.length := by
      have := Int.pow_pos (n := 10) (m := t.length) (by omega)
      omega
    rw [List.length_cons, Int.pow_succ] at h
    unfold numS
    split
    · refine foldS_ge t _ (fun x hx => hc x (by simp [hx])) (by omega) (by omega) ?_
      have h4 : n * (10 ^ t.length * 10) = (10 * n) * 10 ^ t.length := by
        rw [Int.mul_comm (10 ^ t.length) 10, ← Int.mul_assoc, Int.mul_comm n 10]
      have h3 : (10 * n) * 10 ^ t.length ≤ (10 * n + dgV c) * 10 ^ t.length := Int.mul_le_mul_of_nonneg_right (by omega) (by omega)
      omega
    · refine foldS_ge t _ (fun x hx => hc x (by simp [hx])) (by omega) (by omega) ?_
      have h3 : (1099511627776 : Int) * 1 ≤ 1099511627776 * 10 ^ t.length := Int.mul_le_mul_of_nonneg_left hp (by omega)
      omega
def okN (t : Tok) : Prop := isNum t = true → t = [48] ∨ ((∀ c ∈ t, isDig c = true) ∧ (t.getD 0 default).toNat ≠ 48)
theorem span_all {p : UInt8 → Bool} : ∀ (s : List UInt8), ∀ c ∈ s.take (spanB p s), p c = true
  | [], c, h => by simp at h
  | x :: s, c, h => by
    rw [spanB] at h
    split at h
    · rename_i hx
      rw [List.take_succ_cons] at h
      rcases List.mem_cons.1 h with h | h
      · rw [h]; exact hx
      · exact span_all s c h
    · simp at h
theorem okN_tok (c : UInt8) (cs : List UInt8) : okN ((c :: cs).take (tokN (c :: cs))) := by
  intro hn
  have e : tokN (c :: cs) = if c.toNat = 48 then 1 else if isDig c = true then spanB isDig (c :: cs) else if isLet c = true then spanB isNam (c :: cs) else markL marksL (c :: cs) := by rw [tokN]
  by_cases h0 : c.toNat = 48
  · rw [e, if_pos h0]
    left
    rw [List.take_succ_cons, List.take_zero]
    have : c = 48 := UInt8.toNat_inj.1 h0
    rw [this]
  · rw [if_neg h0] at e
    by_cases h1 : isDig c = true
    · rw [if_pos h1] at e
      right
      rw [e]
      refine ⟨span_all _, ?_⟩
      rw [spanB, if_pos h1, List.take_succ_cons]
      exact h0
    · exfalso
      cases hk : tokN (c :: cs) with
      | zero => rw [hk, List.take_zero] at hn; cases hn
      | succ k =>
        rw [hk, List.take_succ_cons] at hn
        exact h1 hn
theorem lexF_num : ∀ (f : Nat) (s : List UInt8) (u : Tok), u ∈ lexF f s → okN u
  | 0, s, u, h => absurd h (by simp [lexF])
  | f + 1, s, u, h => by
    cases s with
    | nil => simp [lexF] at h
    | cons c cs =>
      simp only [lexF] at h
      split at h
      · exact lexF_num f cs u h
      · split at h
        · rw [List.mem_singleton.1 h]; exact fun q => by cases q
        · rcases List.mem_cons.1 h with h | h
          · rw [h]; exact okN_tok c cs
          · exact lexF_num f _ u h
theorem num_big {t : Tok} (h : okN t) (hn : isNum t = true) : numR t = bigF (numP t) := by
  unfold numR numP
  rcases h hn with rfl | ⟨hd, h0⟩
  · decide
  · split
    · rename_i hl
      cases t with
      | nil => cases hn
      | cons c t =>
        have h1 := dgV_dig (hd c (by simp))
        have h2 := hd c (by simp)
        unfold isDig at h2
        simp only [decide_eq_true_eq] at h2
        simp only [List.getD_cons_zero] at h0
        have e : numS 0 c = dgV c := by unfold numS; rw [if_pos (by omega)]; omega
        rw [List.foldl_cons, e]
        rw [List.length_cons] at hl
        have hp : (10 : Int) ^ 9 ≤ 10 ^ t.length := by
          have : (10 : Nat) ^ 9 ≤ 10 ^ t.length := Nat.pow_le_pow_right (by omega) (by omega)
          exact_mod_cast this
        have h9 : (10 : Int) ^ 9 = 1000000000 := by decide
        have h5 : 1 * (10 : Int) ^ t.length ≤ dgV c * 10 ^ t.length := Int.mul_le_mul_of_nonneg_right (by omega) (Int.pow_nonneg (by omega))
        have h6 := foldS_ge t (dgV c) (fun x hx => hd x (by simp [hx])) (by omega) (by omega) (by omega)
        unfold bigF
        rw [if_pos h6]
    · rename_i hl
      have h1 := foldF_lt t 0 hd (by omega)
      have hp : (10 : Int) ^ t.length ≤ 10 ^ 9 := by
        have : (10 : Nat) ^ t.length ≤ 10 ^ 9 := Nat.pow_le_pow_right (by omega) (by omega)
        exact_mod_cast this
      have h9 : (10 : Int) ^ 9 = 1000000000 := by decide
      have h2 : t.foldl numF 0 < 1000000000 := by omega
      rw [foldS_eq t 0 (by omega) (by omega)]
      unfold bigF
      rw [if_neg (by omega)]
theorem numP_R (s : List UInt8) : NumP bigF numP numR (lexL s) := fun t ht hn => num_big (lexF_num _ _ _ ht) hn
theorem mapN_size (f : Int → Int) : ∀ e : Ex, (e.mapN f).size = e.size := by
  intro e
  induction e using Ex.ind with
  | h op n c ks ih =>
    rw [Ex.mapN_mk, Ex.size, Ex.size]
    have key : ∀ l : List Ex, (∀ a ∈ l, a ∈ ks) → Ex.sizeL (l.map (Ex.mapN f)) = Ex.sizeL l := by
      intro l
      induction l with
      | nil => intro _; rfl
      | cons a l ihl => intro h; rw [List.map_cons, Ex.sizeL, Ex.sizeL, ih a (h a (by simp)), ihl fun b hb => h b (by simp [hb])]
    rw [key ks fun a ha => ha]
theorem mapN_depth (f : Int → Int) : ∀ e : Ex, (e.mapN f).depth = e.depth := by
  intro e
  induction e using Ex.ind with
  | h op n c ks ih =>
    rw [Ex.mapN_mk, Ex.depth, Ex.depth]
    have key : ∀ l : List Ex, (∀ a ∈ l, a ∈ ks) → Ex.depthL (l.map (Ex.mapN f)) = Ex.depthL l := by
      intro l
      induction l with
      | nil => intro _; rfl
      | cons a l ihl => intro h; rw [List.map_cons, Ex.depthL, Ex.depthL, ih a (h a (by simp)), ihl fun b hb => h b (by simp [hb])]
    rw [key ks fun a ha => ha]
theorem bigF_id {n : Int} (h : n < 1000000000) : bigF n = n := by unfold bigF; rw [if_neg (by omega)]
theorem bigF_rng {n m : Int} (hm : m ≤ 1000000000) : (0 ≤ bigF n ∧ bigF n < m) ↔ (0 ≤ n ∧ n < m) := by
  unfold bigF; split <;> omega
theorem bigF_0 {n : Int} : bigF n = 0 ↔ n = 0 := by unfold bigF; split <;> omega
theorem nodeP_map {w : Int} {vs : List Vr} {k : Int} (hw : widP w) (hk : k ≤ 3) {op n c : Int} {m : Nat} : nodeP w vs k op (if op = 0 then bigF n else n) (bigF c) m ↔ nodeP w vs k op n c m := by
  have hpw := pow_w hw.1 hw.2
  unfold nodeP
  by_cases h1 : op = 1
  · rw [if_pos h1, if_pos h1, if_neg (by omega)]
    have := bigF_rng (n := c) (m := k) (by omega)
    constructor
    · rintro ⟨q1, q2, q3, q4, q5⟩
      have := this.1 ⟨q3, q4⟩
      exact ⟨q1, q2, this.1, this.2, q5⟩
    · rintro ⟨q1, q2, q3, q4, q5⟩
      have := this.2 ⟨q3, q4⟩
      exact ⟨q1, q2, this.1, this.2, q5⟩
  · rw [if_neg h1, if_neg h1, bigF_0]
    by_cases h0 : op = 0
    · rw [if_pos h0, if_pos h0, if_pos h0]
      unfold wrdP
      rw [bigF_rng (by omega)]
    · rw [if_neg h0, if_neg h0, if_neg h0]
theorem formE_map {w : Int} {vs : List Vr} {k : Int} (hw : widP w) (hk : k ≤ 3) : ∀ e : Ex, formE w vs k (e.mapN bigF) ↔ formE w vs k e := by
  intro e
  induction e using Ex.ind with
  | h op n c ks ih =>
    rw [Ex.mapN_mk, formE_mk, formE_mk, List.length_map, nodeP_map hw hk]
    constructor
    · rintro ⟨h1, h2⟩
      exact ⟨h1, fun i hi => by have := h2 i hi; rw [map_get hi] at this; exact (ih _ (getD_in hi)).1 this⟩
    · rintro ⟨h1, h2⟩
      exact ⟨h1, fun i hi => by rw [map_get hi]; exact (ih _ (getD_in hi)).2 (h2 i hi)⟩
theorem isE_map {w : Int} {vs : List Vr} {k : Int} (hw : widP w) (hk : k ≤ 3) (e : Ex) : isE w vs k (e.mapN bigF) ↔ isE w vs k e := by
  unfold isE
  rw [mapN_size, mapN_depth, formE_map hw hk]
theorem mapN_id {w : Int} {vs : List Vr} {k : Int} (hw : widP w) (hk : k ≤ 3) : ∀ e : Ex, formE w vs k e → e.mapN bigF = e := by
  have hpw := pow_w hw.1 hw.2
  intro e
  induction e using Ex.ind with
  | h op n c ks ih =>
    rw [formE_mk, Ex.mapN_mk]
    rintro ⟨h1, h2⟩
    have hc : bigF c = c := by
      refine bigF_id ?_
      unfold nodeP at h1
      split at h1 <;> omega
    have hn : (if op = 0 then bigF n else n) = n := by
      split
      · rename_i h0
        have := (nodeP_0 h0).1 h1
        have h3 := this.2.2.2
        unfold wrdP at h3
        exact bigF_id (by omega)
      · rfl
    have hks : ks.map (Ex.mapN bigF) = ks := by
      have : ∀ a ∈ ks, Ex.mapN bigF a = a := fun a ha => by
        obtain ⟨i, hi, rfl⟩ := List.getElem_of_mem ha
        have := h2 i hi
        rw [getD_eq hi] at this
        exact ih _ ha this
      rw [List.map_congr_left this, List.map_id']
    rw [hc, hn, hks]
theorem parP_same {w : Int} {vs : List Vr} {k : Int} {s : List UInt8} {e e' : Ex} {c c' : Int} (h : parP numP w vs k s e c) (h' : parP numR w vs k s e' c') : c = c' ∧ e = e' ∧ e.size ≤ 400 := by
  have hz : Et.z.er.size ≤ 400 := by decide
  have hx : parX numR (cpB k) vs s = (parX numP (cpB k) vs s).map (Ex.mapN bigF) := parX_map (by decide) (numP_R s)
  unfold parP at h h'
  rcases h with ⟨rfl, rfl, h1⟩ | ⟨rfl, rfl, h1, h2⟩ | ⟨rfl, rfl, h1, h2, h3⟩ | ⟨rfl, rfl, h1, h2, x, h3, h4⟩ | ⟨rfl, h1, h2, h3, h4⟩
  · rcases h' with ⟨rfl, rfl, k1⟩ | ⟨rfl, rfl, k1, k2⟩ | ⟨rfl, rfl, k1, k2, k3⟩ | ⟨rfl, rfl, k1, k2, y, k3, k4⟩ | ⟨rfl, k1, k2, k3, k4⟩
    · exact ⟨rfl, rfl, hz⟩
    all_goals exact absurd k1 h1
  · rcases h' with ⟨rfl, rfl, k1⟩ | ⟨rfl, rfl, k1, k2⟩ | ⟨rfl, rfl, k1, k2, k3⟩ | ⟨rfl, rfl, k1, k2, y, k3, k4⟩ | ⟨rfl, k1, k2, k3, k4⟩
    · exact absurd h1 k1
    · exact ⟨rfl, rfl, hz⟩
    all_goals exact absurd h2 k2
  · rcases h' with ⟨rfl, rfl, k1⟩ | ⟨rfl, rfl, k1, k2⟩ | ⟨rfl, rfl, k1, k2, k3⟩ | ⟨rfl, rfl, k1, k2, y, k3, k4⟩ | ⟨rfl, k1, k2, k3, k4⟩
    · exact absurd h1 k1
    · exact absurd k2 h2
    · exact ⟨rfl, rfl, hz⟩
    all_goals (rw [h3, k3] at hx; cases hx)
  · rcases h' with ⟨rfl, rfl, k1⟩ | ⟨rfl, rfl, k1, k2⟩ | ⟨rfl, rfl, k1, k2, k3⟩ | ⟨rfl, rfl, k1, k2, y, k3, k4⟩ | ⟨rfl, k1, k2, k3, k4⟩
    · exact absurd h1 k1
    · exact absurd k2 h2
    · rw [h3, k3] at hx; cases hx
    · exact ⟨rfl, rfl, hz⟩
    · rw [h3, k3] at hx
      cases hx
      exact absurd ((isE_map h1.1.1 h1.2.2 _).1 k4) h4
  · rcases h' with ⟨rfl, rfl, k1⟩ | ⟨rfl, rfl, k1, k2⟩ | ⟨rfl, rfl, k1, k2, k3⟩ | ⟨rfl, rfl, k1, k2, y, k3, k4⟩ | ⟨rfl, k1, k2, k3, k4⟩
    · exact absurd h1 k1
    · exact absurd k2 h2
    · rw [h3, k3] at hx; cases hx
    · rw [h3, k3] at hx
      cases hx
      exact absurd ((isE_map h1.1.1 h1.2.2 _).2 h4) k4
    · rw [h3, k3] at hx
      cases hx
      exact ⟨rfl, (mapN_id h1.1.1 h1.2.2 _ h4.2.2).symm, h4.1⟩
theorem lexF_cnt : ∀ (f : Nat) (s : List UInt8), (lexF f s).length ≤ s.length
  | 0, s => by simp [lexF]
  | f + 1, s => by
    cases s with
    | nil => simp [lexF]
    | cons c cs =>
      simp only [lexF]
      split
      · have := lexF_cnt f cs
        rw [List.length_cons]; omega
      · split
        · simp
        · rename_i hn
          have := lexF_cnt f ((c :: cs).drop (tokN (c :: cs)))
          rw [List.length_drop] at this
          simp only [List.length_cons] at this ⊢
          omega
end Go.Proofs.Ytlidnionbofkaaa.Hm.V
