/- The program's machine of registers, its cells. -/
import Derived.Test.YtffdcbhhajagjaaHF
import Derived.Test.YtffdcbhhajagjaaA6
import Derived.Test.YtffdcbhhajagjaaVM0
import Derived.Test.YtffdcbhhajagjaaVY2
namespace Go.Proofs.Ytffdcbhhajagjaa.Hm.V
open Go
set_option linter.all false
set_option maxRecDepth 100000
attribute [local irreducible] X S R D W Call Upd Rds Rck Sees Res Cel CallP fnQ
abbrev I64 (n : Int) : Value := .int .i64 n
/-- The cells of the program's state: its registers, and the rest. -/
def stC (rg : List Int) (rest : List Value) : List Value := rg.map I64 ++ rest
theorem st_len {rg : List Int} {rest : List Value} (h : rg.length = 64) : (stC rg rest).length = 64 + rest.length := by unfold stC; rw [List.length_append, List.length_map, h]
theorem st_beq {rg : List Int} {rest : List Value} (h : rg.length = 64) (hr : rest.length = 8) : Nat.beq (stC rg rest).length 72 = true := by rw [st_len h, hr]; rfl
theorem st_ble {rg : List Int} {rest : List Value} {n : Nat} (h : rg.length = 64) (hr : rest.length = 8) (hn : n ≤ 72) : Nat.ble n (stC rg rest).length = true := by rw [st_len h, hr]; exact Nat.ble_eq_true_of_le hn
theorem st_reg {rg : List Int} {rest : List Value} {k : Nat} (h : rg.length = 64) (hk : k < 64) : (stC rg rest)[0 + 0 + k * 1]? = some (.int .i64 (rg.getD k default)) := by
  have e : 0 + 0 + k * 1 = k := by omega
  rw [e, stC, List.getElem?_append_left (by rw [List.length_map]; omega), List.getElem?_map, getD_at (by omega)]; rfl
theorem st_at {rg : List Int} {rest : List Value} {w : Value} (j : Nat) (h : rg.length = 64) (hw : rest[j]? = some w) : (stC rg rest)[64 + j]? = some w := by
  rw [stC, List.getElem?_append_right (by rw [List.length_map]; omega), List.length_map, h, show 64 + j - 64 = j by omega, hw]
theorem st_put {rg : List Int} {rest : List Value} {v : Value} (j : Nat) (h : rg.length = 64) (hr : rest.length = 8) (hj8 : Nat.blt j 8 = true) : (stC rg rest).take (64 + j) ++ ([v] ++ (stC rg rest).drop (64 + j + 1)) = stC rg (rest.set j v) := by
  have hj : j < rest.length := by rw [hr]; simpa using hj8
  have hm : (rg.map I64).length = 64 := by rw [List.length_map]; exact h
  unfold stC
  rw [List.take_append, List.drop_append, hm, List.take_of_length_le (by omega), List.drop_of_length_le (by omega), List.nil_append, List.append_assoc, show 64 + j - 64 = j by omega, show 64 + j + 1 - 64 = j + 1 by omega]
  congr 1
  rw [List.set_eq_take_append_cons_drop, if_pos hj]; rfl
theorem st_setreg {rg : List Int} {rest : List Value} {k : Nat} {a : Int} (h : rg.length = 64) (hk : k < 64) : (stC rg rest).take (0 + 0 + k * 1) ++ ([.int .i64 a] ++ (stC rg rest).drop (0 + 0 + k * 1 + 1)) = stC (rg.set k a) rest := by
  have e : 0 + 0 + k * 1 = k := by omega
  have hm : (rg.map I64).length = 64 := by rw [List.length_map]; exact h
  unfold stC
  rw [e, List.take_append_of_le_length (by omega), List.drop_append_of_le_length (by omega), List.map_set, List.set_eq_take_append_cons_drop, if_pos (by omega)]
  simp
theorem st_run {rg : List Int} {rest : List Value} (h : rg.length = 64) (hr : rest.length = 8) : ((stC rg rest).drop (0 + 65)).take 7 = rest.drop 1 := by
  have hm : (rg.map I64).length = 64 := by rw [List.length_map]; exact h
  unfold stC
  rw [List.drop_append, hm, List.drop_of_length_le (by omega), List.nil_append, List.take_of_length_le (by rw [List.length_drop]; omega)]
section
variable {F : Nat → Option HFn} {lo N : Nat} {A : Tab} {Z Z0 : Vw} {O : List Pt} {K : Value → Vw → List Pt → Prop} {x y : Operand} {v : Value} {e : Nat} {xs : List (List Value)} {f : Pt → List Pt} {g : List Pt} {b : Nat} {cs : List Value}
/-- Is a slice that stands nil? -/
theorem xNilZ [fz : FzL Z e v xs] (hx : evA A x = some v) (hy : evA A y = some (.slice none 0 0)) (kt : v = .slice none 0 0 → xs = [] → K (.bool true) Z O) (kf : K (.bool false) Z O) : X F lo (.eq false (.nil .slice) x y) N A Z O K := by
  rcases fz.out.out with ⟨h1, h2⟩ | ⟨b, o, s, c, cs, h1, _⟩
  · subst h1
    exact X_eq hx hy (t := true) rfl (kt rfl h2)
  · subst h1
    exact X_eq hx hy (t := false) rfl kf
/-- A slice of an array in a box that is not written any more. -/
theorem xSlBox {n esz : Nat} [t : AtB O b cs f g] (hx : evA A x = some (.pointer (some ⟨b, 0, none⟩))) (hxs : ∀ z ∈ xs, z.length = esz) (hn : xs.length = n) (hl : n * esz ≤ cs.length) (hc : cs.take (n * esz) = xs.flatten) (k : ∀ v' Z', ZL Z Z' → Fz Z' esz v' xs → K v' Z' g) : X F lo (.slicea n esz x none none none) N A Z O K := by
  unfold X
  intro R σ h hs m
  have hat := t.out
  have m1 := At.mem hat m
  have hb := (m1.own _ List.mem_cons_self).2
  obtain ⟨Z', q1, q2, q3⟩ := m1.freeze (b := b) rfl (cells_row hb) (fun cs' c e => by rw [hb] at e; cases e)
  refine ⟨0, .slice (some ⟨b, 0, none⟩) n n, h, Z', g, ?_, q1, q3, k _ Z' ⟨q1⟩ ⟨hxs, .inr ⟨b, 0, none, n, cs, by rw [hn], by omega, .inl rfl, q2, by rw [hn]; omega, by rw [hn, List.drop_zero]; exact hc⟩⟩⟩
  have e1 : ev σ x = .pointer (some ⟨b, 0, none⟩) := evA_ok hs hx
  simp only [xoper, xop, e1, Option.map_none, sliceOf, seen]
  simp
end
end Go.Proofs.Ytffdcbhhajagjaa.Hm.V
