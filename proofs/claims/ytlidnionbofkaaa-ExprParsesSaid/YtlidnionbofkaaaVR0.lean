import Derived.Test.YtlidnionbofkaaaHF
import Derived.Test.YtlidnionbofkaaaA6
import Derived.Test.YtlidnionbofkaaaVQ3
namespace Go.Proofs.Ytlidnionbofkaaa.Hm.V
open Go
set_option linter.all false
set_option maxRecDepth 100000
attribute [local irreducible] X XG S R D W Call CallG Upd Rds Rck Sees Res Cel CallP fnQ fnG
def kindT (t : Tok) : Int := if isNum t = true then 0 else if isWrd t = true then 1 else 2
def encT (t : Tok) : List Value := [.int .i64 (kindT t), .string ⟨⟨t⟩⟩]
def pkK : List Tok → Int
  | [] => 3
  | t :: _ => kindT t
def pkS : List Tok → Tok
  | [] => []
  | t :: _ => t
theorem markAll {s : List UInt8} {j : Nat} (hj : j < 20) (h : preB (marksL.getD j default) s = true) (hn : ∀ i, i < j → ¬ preB (marksL.getD i default) s = true) : markL marksL s = (marksL.getD j default).length := by
  have hl : marksL.length = 20 := rfl
  unfold markL
  have : marksL.find? (preB · s) = some (marksL.getD j default) := by
    rw [List.find?_eq_some_iff_getElem]
    refine ⟨h, j, by omega, (getD_eq (by omega)).symm, fun i hi => ?_⟩
    have := hn i hi
    rw [getD_eq (by omega)] at this
    simpa using this
  rw [this]
theorem markNone {s : List UInt8} (hn : ∀ i, i < 20 → ¬ preB (marksL.getD i default) s = true) : markL marksL s = 0 := by
  have hl : marksL.length = 20 := rfl
  unfold markL
  have : marksL.find? (preB · s) = none := by
    rw [List.find?_eq_none]
    intro x hx
    obtain ⟨i, hi, rfl⟩ := List.getElem_of_mem hx
    have := hn i (by omega)
    rw [getD_eq hi] at this
    exact this
  rw [this]
theorem take_hd {s : List UInt8} {i n : Nat} (hi : i < s.length) (hn : n ≠ 0) : ∃ r, (s.drop i).take n = s.getD i default :: r := by
  obtain ⟨m, rfl⟩ : ∃ m, n = m + 1 := ⟨n - 1, by omega⟩
  exact ⟨_, by rw [drop_at' hi, List.take_succ_cons]⟩
theorem kind_0 {s : List UInt8} {i n : Nat} (hi : i < s.length) (hn : n ≠ 0) (h : isDig (s.getD i default) = true) : kindT ((s.drop i).take n) = 0 := by
  obtain ⟨r, e⟩ := take_hd hi hn
  rw [e, kindT, isNum, if_pos h]
theorem kind_1 {s : List UInt8} {i n : Nat} (hi : i < s.length) (hn : n ≠ 0) (h0 : ¬ isDig (s.getD i default) = true) (h : isLet (s.getD i default) = true) : kindT ((s.drop i).take n) = 1 := by
  obtain ⟨r, e⟩ := take_hd hi hn
  rw [e, kindT, isNum, if_neg h0, isWrd, if_pos h]
theorem kind_2 {s : List UInt8} {i n : Nat} (hi : i < s.length) (hn : n ≠ 0) (h0 : ¬ isDig (s.getD i default) = true) (h : ¬ isLet (s.getD i default) = true) : kindT ((s.drop i).take n) = 2 := by
  obtain ⟨r, e⟩ := take_hd hi hn
  rw [e, kindT, isNum, if_neg h0, isWrd, if_neg h]
theorem span_pos {p : UInt8 → Bool} {s : List UInt8} {i : Nat} (hi : i < s.length) (h : p (s.getD i default) = true) : spanB p (s.drop i) ≠ 0 := by
  rw [spanA_step hi, if_pos h]; omega
def nxP (s : List UInt8) (i : Nat) (r : Value) : Prop := (tokN (s.drop i) = 0 ∧ ∃ u, r = .tuple ⟨[.agg ⟨[.int .i64 0, .string ⟨⟨u⟩⟩]⟩, .bool false]⟩) ∨ (tokN (s.drop i) ≠ 0 ∧ r = .tuple ⟨[.agg ⟨encT ((s.drop i).take (tokN (s.drop i)))⟩, .bool true]⟩)
theorem nx_one {s : List UInt8} {i : Nat} (hi : i < s.length) (h : (s.getD i default).toNat = 48) : nxP s i (.tuple ⟨[.agg ⟨[.int .i64 0, .string ⟨⟨[48]⟩⟩]⟩, .bool true]⟩) := by
  have e := tokA_48 hi h
  refine .inr ⟨by omega, ?_⟩
  have e2 : (s.drop i).take (tokN (s.drop i)) = [48] := by
    rw [e, drop_at' hi, List.take_succ_cons, List.take_zero]
    have : s.getD i default = 48 := UInt8.toNat_inj.1 h
    rw [this]
  rw [e2]; rfl
theorem nx_dig {s : List UInt8} {i n : Nat} (hi : i < s.length) (h : ¬ (s.getD i default).toNat = 48) (h1 : isDig (s.getD i default) = true) (hn : n = spanB isDig (s.drop i)) : nxP s i (.tuple ⟨[.agg ⟨[.int .i64 0, .string ⟨⟨(s.drop i).take n⟩⟩]⟩, .bool true]⟩) := by
  have e := tokA_dig hi h h1
  have h0 := span_pos hi h1
  refine .inr ⟨by omega, ?_⟩
  rw [e, encT, kind_0 hi h0 h1, hn]
theorem nx_let {s : List UInt8} {i n : Nat} (hi : i < s.length) (h1 : ¬ isDig (s.getD i default) = true) (h2 : isLet (s.getD i default) = true) (hn : n = spanB isNam (s.drop i)) : nxP s i (.tuple ⟨[.agg ⟨[.int .i64 1, .string ⟨⟨(s.drop i).take n⟩⟩]⟩, .bool true]⟩) := by
  have e := tokA_let hi h1 h2
  have h0 : spanB isNam (s.drop i) ≠ 0 := span_pos hi (by unfold isNam; rw [h2]; rfl)
  refine .inr ⟨by omega, ?_⟩
  rw [e, encT, kind_1 hi h0 h1 h2, hn]
theorem nx_mark {s : List UInt8} {i j : Nat} (hi : i < s.length) (h1 : ¬ isDig (s.getD i default) = true) (h2 : ¬ isLet (s.getD i default) = true) (hj : j < 20) (h : preB (marksL.getD j default) (s.drop i) = true) (hn : ∀ k, k < j → ¬ preB (marksL.getD k default) (s.drop i) = true) : nxP s i (.tuple ⟨[.agg ⟨[.int .i64 2, .string ⟨⟨marksL.getD j default⟩⟩]⟩, .bool true]⟩) := by
  have e := tokA_mark hi h1 h2
  rw [markAll hj h hn] at e
  have hp := (preA (by omega)).1 h
  have h0 : (marksL.getD j default).length ≠ 0 := by
    have := marks_pos (getD_in (l := marksL) (i := j) hj)
    omega
  refine .inr ⟨by omega, ?_⟩
  rw [e, encT, kind_2 hi h0 h1 h2, hp.2]
theorem nx_no {s : List UInt8} {i : Nat} {u : Tok} (hi : i < s.length) (h1 : ¬ isDig (s.getD i default) = true) (h2 : ¬ isLet (s.getD i default) = true) (hn : ∀ k, k < 20 → ¬ preB (marksL.getD k default) (s.drop i) = true) : nxP s i (.tuple ⟨[.agg ⟨[.int .i64 0, .string ⟨⟨u⟩⟩]⟩, .bool false]⟩) :=
  .inl ⟨by rw [tokA_mark hi h1 h2, markNone hn], _, rfl⟩
end Go.Proofs.Ytlidnionbofkaaa.Hm.V
