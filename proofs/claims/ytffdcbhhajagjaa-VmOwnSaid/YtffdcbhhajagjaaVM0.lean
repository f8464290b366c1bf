/- The machine of registers, plainly. -/
import Derived.Test.YtffdcbhhajagjaaHF
import Derived.Test.YtffdcbhhajagjaaA6
import Derived.Test.YtffdcbhhajagjaaVX0
namespace Go.Proofs.Ytffdcbhhajagjaa.Hm.V
open Go
set_option linter.all false
set_option maxRecDepth 100000
attribute [local irreducible] X S R D W Call Upd Rds Rck Sees Res Cel CallP fnQ
structure In where
  o : Int
  a : Int
  b : Int
  c : Int
  d : Int
  deriving DecidableEq
instance : Inhabited In := ⟨⟨0, 0, 0, 0, 0⟩⟩
def In.k (x : In) : List Value := [.int .i64 x.o, .int .i64 x.a, .int .i64 x.b, .int .i64 x.c, .int .i64 x.d]
abbrev In.v (x : In) : Value := .agg ⟨x.k⟩
abbrev Ins (Z : Vw) (v : Value) (l : List In) : Prop := Fz Z 5 v (l.map In.k)
structure Ev where
  k : Int
  p : Int
  x : Int
  deriving DecidableEq
instance : Inhabited Ev := ⟨⟨0, 0, 0⟩⟩
def Ev.c (e : Ev) : List Value := [.int .i64 e.k, .int .i64 e.p, .int .i64 e.x]
structure Ou where
  l : Int
  x : Int
  deriving DecidableEq
instance : Inhabited Ou := ⟨⟨0, 0⟩⟩
def Ou.c (e : Ou) : List Value := [.int .i64 e.l, .int .i64 e.x]
/-- Code. -/
structure Cd where
  w : Int
  vs : List Vr
  ins : List In
def regP (r : Int) : Prop := 0 ≤ r ∧ r < 64
def placeP (c : Cd) (j : Int) : Prop := 0 ≤ j ∧ j < c.ins.length
def cellsV' (c : Cd) (v : Int) : Int := (c.vs.getD v.toNat default).cs
def atP (c : Cd) (v s : Int) : Prop := 0 ≤ v ∧ v < c.vs.length ∧ ((1 < cellsV' c v ∧ regP s) ∨ (cellsV' c v ≤ 1 ∧ s = 0))
def rightP (c : Cd) (x : In) : Prop :=
  (x.o = 0 ∧ regP x.a ∧ wrdP c.w x.b ∧ x.c = 0 ∧ x.d = 0) ∨
  (x.o = 1 ∧ regP x.a ∧ regP x.c ∧ ((IsOp x.b ∧ regP x.d) ∨ (x.b = 12 ∧ x.d = 0))) ∨
  (x.o = 2 ∧ regP x.a ∧ regP x.b ∧ regP x.c ∧ regP x.d) ∨
  (x.o = 3 ∧ regP x.a ∧ atP c x.b x.c ∧ x.d = 0) ∨
  (x.o = 4 ∧ atP c x.a x.b ∧ regP x.c ∧ x.d = 0) ∨
  (x.o = 5 ∧ placeP c x.a ∧ x.b = 0 ∧ x.c = 0 ∧ x.d = 0) ∨
  (x.o = 6 ∧ regP x.a ∧ placeP c x.b ∧ x.c = 0 ∧ x.d = 0) ∨
  (x.o = 7 ∧ 0 ≤ x.a ∧ x.a ≤ 47 ∧ regP x.b ∧ x.c = 0 ∧ x.d = 0) ∨
  ((x.o = 8 ∨ x.o = 9 ∨ x.o = 10) ∧ regP x.a ∧ x.b = 0 ∧ x.c = 0 ∧ x.d = 0) ∨
  (x.o = 11 ∧ x.a = 0 ∧ x.b = 0 ∧ x.c = 0 ∧ x.d = 0)
def codeP (c : Cd) : Prop := headP c.w c.vs ∧ 1 ≤ c.ins.length ∧ c.ins.length ≤ 4000 ∧ (∀ i, i < c.ins.length → rightP c (c.ins.getD i default)) ∧ ((c.ins.getD (c.ins.length - 1) default).o = 5 ∨ (c.ins.getD (c.ins.length - 1) default).o = 11)
/-- Code's value: its slices stand. -/
def CdV (Z : Vw) (v : Value) (c : Cd) : Prop := ∃ vv vi, v = .agg ⟨[.int .i64 c.w, vv, vi]⟩ ∧ Vrs Z vv c.vs ∧ Ins Z vi c.ins ∧ c.vs.length < 9223372036854775808 ∧ c.ins.length < 9223372036854775808 ∧ ∀ x ∈ c.vs, x.nm.length < 9223372036854775808
theorem CdV.le {Z Z' : Vw} {v : Value} {c : Cd} (k : CdV Z v c) (hz : Z.le Z') : CdV Z' v c := by
  obtain ⟨vv, vi, rfl, h1, h2, h3⟩ := k
  exact ⟨vv, vi, rfl, h1.le hz, h2.le hz, h3⟩
/-- A run on its way. -/
structure Cf where
  rg : List Int
  pc : Int
  st : List Int
  ou : List Ou
  tr : List Ev
  us : Nat
  tl : List Int
def Cf.r (s : Cf) (r : Int) : Int := s.rg.getD r.toNat default
/-- The place among a variable's cells that an instruction means. -/
def idxV (c : Cd) (s : Cf) (v r : Int) : Int := if 1 < cellsV' c v then s.r r % cellsV' c v else 0
def evV (c : Cd) (s : Cf) (k v i : Int) : List Ev := if 1 < cellsV' c v then s.tr ++ [⟨k, v, i⟩] else s.tr
def celV (c : Cd) (s : Cf) (v r : Int) : Nat := (firstV c.vs v.toNat + idxV c s v r).toNat
def opV (c : Cd) (s : Cf) (x : In) : Int := if x.b = 12 then 2 ^ c.w.toNat - 1 - s.r x.c else doW x.b c.w (s.r x.c) (s.r x.d)
/-- What an instruction does that goes on at the next place. -/
def mvP (c : Cd) (x : In) (s : Cf) : Option Cf :=
  if x.o = 0 then some { s with rg := s.rg.set x.a.toNat x.b }
  else if x.o = 1 then some { s with rg := s.rg.set x.a.toNat (opV c s x) }
  else if x.o = 2 then some { s with rg := s.rg.set x.a.toNat (if s.r x.b ≠ 0 then s.r x.c else s.r x.d) }
  else if x.o = 3 then some { s with tr := evV c s 1 x.b (idxV c s x.b x.c), rg := s.rg.set x.a.toNat (s.st.getD (celV c s x.b x.c) default) }
  else if x.o = 4 then some { s with tr := evV c s 2 x.a (idxV c s x.a x.b), st := s.st.set (celV c s x.a x.b) (s.r x.c) }
  else if x.o = 7 then some { s with ou := s.ou ++ [⟨x.a, s.r x.b⟩] }
  else none
/-- An instruction; with the end that it makes, if it makes one. -/
def doP (c : Cd) (pk : List Int) (x : In) (s : Cf) : Cf × Option Int :=
  match mvP c x s with
  | some s' => ({ s' with pc := s.pc + 1 }, none)
  | none =>
    if x.o = 5 then ({ s with pc := x.a }, none)
    else if x.o = 6 then ({ s with tr := s.tr ++ [⟨0, s.pc, if s.r x.a = 0 then 1 else 0⟩], pc := if s.r x.a = 0 then x.b else s.pc + 1 }, none)
    else if x.o = 8 then (if pk.length ≤ s.us then (s, some 4) else ({ s with rg := s.rg.set x.a.toNat (pk.getD s.us default), us := s.us + 1, pc := s.pc + 1 }, none))
    else if x.o = 9 then (if s.r x.a = 0 then (s, some 1) else ({ s with pc := s.pc + 1 }, none))
    else if x.o = 10 then (if s.r x.a = 0 then (s, some 2) else ({ s with pc := s.pc + 1 }, none))
    else (s, some 0)
def Cf.tick (s : Cf) : Cf := { s with tl := s.tl ++ [s.pc] }
abbrev Cf.ins (c : Cd) (s : Cf) : In := c.ins.getD s.pc.toNat default
/-- A run with some fuel; with its end. -/
def runP (c : Cd) (pk : List Int) : Nat → Cf → Cf × Int
  | 0, s => (s, 3)
  | n + 1, s => match doP c pk (s.ins c) s.tick with
    | (s', none) => runP c pk n s'
    | (s', some e) => (s', e)
/-- What stays true of a run on its way. -/
structure Gd (c : Cd) (pk : List Int) (s : Cf) : Prop where
  rl : s.rg.length = 64
  rw' : ∀ i, i < 64 → wrdP c.w (s.rg.getD i default)
  pc : 0 ≤ s.pc ∧ s.pc < c.ins.length
  sl : (s.st.length : Int) = firstV c.vs c.vs.length
  sw : ∀ i, i < s.st.length → wrdP c.w (s.st.getD i default)
  us : s.us ≤ pk.length
  ol : s.ou.length ≤ s.tl.length
  tl : s.tr.length ≤ s.tl.length
theorem Gd.reg {c : Cd} {pk : List Int} {s : Cf} (h : Gd c pk s) {r : Int} (hr : regP r) : r.toNat < s.rg.length ∧ wrdP c.w (s.r r) := by
  have h1 := h.rl
  obtain ⟨r0, r1⟩ := hr
  exact ⟨by omega, h.rw' _ (by omega)⟩
theorem cells_ok {c : Cd} (hh : headP c.w c.vs) {v : Int} (h0 : 0 ≤ v) (h1 : v < c.vs.length) : 1 ≤ cellsV' c v ∧ cellsV' c v ≤ 8 ∧ 0 ≤ firstV c.vs v.toNat ∧ firstV c.vs v.toNat + cellsV' c v ≤ firstV c.vs c.vs.length := by
  obtain ⟨_, _, _, h4, h5⟩ := hh
  obtain ⟨_, _, _, h6, h7, _⟩ := h4 v.toNat (by omega)
  exact ⟨h6, h7, (firstV_le (v := v.toNat) (fun i _ hi => h4 i hi) (by omega)).1, firstV_mono h4 (by omega)⟩
theorem idx_ok {c : Cd} {pk : List Int} {s : Cf} (hh : headP c.w c.vs) (hg : Gd c pk s) {v r : Int} (ha : atP c v r) :
    0 ≤ v ∧ v < c.vs.length ∧ 1 ≤ cellsV' c v ∧ cellsV' c v ≤ 8 ∧ 0 ≤ firstV c.vs v.toNat ∧ 0 ≤ idxV c s v r ∧ idxV c s v r < cellsV' c v ∧ firstV c.vs v.toNat + idxV c s v r < s.st.length := by
  obtain ⟨h0, h1, h2⟩ := ha
  obtain ⟨c1, c2, c3, c4⟩ := cells_ok hh h0 h1
  have hsl := hg.sl
  have hi : 0 ≤ idxV c s v r ∧ idxV c s v r < cellsV' c v := by
    unfold idxV
    split
    · exact ⟨Int.emod_nonneg _ (by omega), Int.emod_lt_of_pos _ (by omega)⟩
    · omega
  exact ⟨h0, h1, c1, c2, c3, hi.1, hi.2, by omega⟩
theorem getD_set {α : Type} [Inhabited α] {l : List α} {k j : Nat} {x : α} (hk : k < l.length) : (l.set k x).getD j default = if j = k then x else l.getD j default := by
  rw [List.getD_eq_getElem?_getD, List.getD_eq_getElem?_getD, List.getElem?_set]
  by_cases h : k = j
  · subst h; simp [hk]
  · rw [if_neg h, if_neg (fun e => h e.symm)]
theorem opV_wrd {c : Cd} {pk : List Int} {s : Cf} {x : In} (hw : widP c.w) (hg : Gd c pk s) (h3 : regP x.c) (h4 : (IsOp x.b ∧ regP x.d) ∨ (x.b = 12 ∧ x.d = 0)) : wrdP c.w (opV c s x) := by
  have w3 := (hg.reg h3).2
  unfold opV
  rcases h4 with ⟨ho, hd⟩ | ⟨ho, _⟩
  · rw [if_neg (by unfold IsOp at ho; omega)]
    exact doW_wrd hw w3 (hg.reg hd).2
  · rw [if_pos ho]
    unfold wrdP at w3 ⊢; omega
/-- The next place is one, unless the instruction is a jump or a stop. -/
theorem pc_next {c : Cd} {pk : List Int} {s : Cf} (hc : codeP c) (hg : Gd c pk s) (h5 : (s.ins c).o ≠ 5) (h11 : (s.ins c).o ≠ 11) : s.pc + 1 < c.ins.length := by
  obtain ⟨_, _, _, _, hl⟩ := hc
  have hp := hg.pc
  rcases Int.lt_or_le (s.pc + 1) c.ins.length with h | h
  · exact h
  · exfalso
    have e : c.ins.length - 1 = s.pc.toNat := by omega
    rw [e] at hl
    exact hl.elim h5 h11
theorem Gd.setR {c : Cd} {pk : List Int} {s : Cf} (hg : Gd c pk s) {r a : Int} (hr : regP r) (ha : wrdP c.w a) {p : Int} (hp : 0 ≤ p ∧ p < c.ins.length) : Gd c pk { s.tick with rg := s.rg.set r.toNat a, pc := p } := by
  have h1 := hg.rl
  refine ⟨by simp [h1], fun i hi => ?_, hp, hg.sl, hg.sw, hg.us, ?_, ?_⟩
  · show wrdP c.w ((s.rg.set r.toNat a).getD i default)
    rw [getD_set (by have := hr.2; have := hr.1; omega)]
    split
    · exact ha
    · exact hg.rw' i hi
  · show s.ou.length ≤ (s.tl ++ [s.pc]).length
    have := hg.ol; simp; omega
  · show s.tr.length ≤ (s.tl ++ [s.pc]).length
    have := hg.tl; simp; omega
theorem evV_len (c : Cd) (s : Cf) (k v i : Int) : (evV c s k v i).length ≤ s.tr.length + 1 := by unfold evV; split <;> simp
theorem Gd.ins_ok {c : Cd} {pk : List Int} {s : Cf} (hc : codeP c) (hg : Gd c pk s) : rightP c (s.ins c) := hc.2.2.2.1 _ (by have := hg.pc; omega)
theorem Gd.step {c : Cd} {pk : List Int} {s s' : Cf} (hc : codeP c) (hk : wdsP c.w pk) (hg : Gd c pk s) (h : doP c pk (s.ins c) s.tick = (s', none)) : Gd c pk s' ∧ s'.tl = s.tl ++ [s.pc] := by
  have hw := hc.1.1
  have hx := hg.ins_ok hc
  have hp := hg.pc
  have hnx := pc_next hc hg
  generalize s.ins c = x at h hx hnx
  have hol := hg.ol
  have htl := hg.tl
  have ht : (s.tl ++ [s.pc]).length = s.tl.length + 1 := by simp
  have same : ∀ p : Int, 0 ≤ p ∧ p < c.ins.length → Gd c pk { s.tick with pc := p } := fun p hp => ⟨hg.rl, hg.rw', hp, hg.sl, hg.sw, hg.us, (by show s.ou.length ≤ (s.tl ++ [s.pc]).length; omega), (by show s.tr.length ≤ (s.tl ++ [s.pc]).length; omega)⟩
  have hst : Gd c pk s.tick := same s.pc hp
  unfold doP mvP at h
  rcases hx with ⟨e, h1, h2, h3, h4⟩ | ⟨e, h1, h2, h3⟩ | ⟨e, h1, h2, h3, h4⟩ | ⟨e, h1, h2, h3⟩ | ⟨e, h1, h2, h3⟩ | ⟨e, h1, h2, h3, h4⟩ | ⟨e, h1, h2, h3, h4⟩ | ⟨e, h1, h1', h2, h3, h4⟩ | ⟨e, h1, h2, h3, h4⟩ | ⟨e, h1, h2, h3, h4⟩
  · rw [if_pos e] at h
    cases h
    exact ⟨hg.setR h1 h2 ⟨by show 0 ≤ s.pc + 1; omega, hnx (by omega) (by omega)⟩, rfl⟩
  · rw [if_neg (by omega), if_pos e] at h
    cases h
    exact ⟨hg.setR h1 (opV_wrd (s := s.tick) hw ⟨hg.rl, hg.rw', hp, hg.sl, hg.sw, hg.us, (by show s.ou.length ≤ (s.tl ++ [s.pc]).length; omega), (by show s.tr.length ≤ (s.tl ++ [s.pc]).length; omega)⟩ h2 h3) ⟨by show 0 ≤ s.pc + 1; omega, hnx (by omega) (by omega)⟩, rfl⟩
  · rw [if_neg (by omega), if_neg (by omega), if_pos e] at h
    cases h
    refine ⟨hg.setR h1 ?_ ⟨by show 0 ≤ s.pc + 1; omega, hnx (by omega) (by omega)⟩, rfl⟩
    split
    · exact (hg.reg h3).2
    · exact (hg.reg h4).2
  · rw [if_neg (by omega), if_neg (by omega), if_neg (by omega), if_pos e] at h
    cases h
    obtain ⟨i1, i2, i3, i4, i5, i6, i7, i8⟩ := idx_ok hc.1 hst h2
    have hs := hg.setR h1 (a := s.st.getD (celV c s.tick x.b x.c) default) (hg.sw _ (by unfold celV; show (_ : Nat) < s.st.length; have : s.tick.st = s.st := rfl; rw [this] at i8; omega)) (p := s.pc + 1) ⟨by omega, hnx (by omega) (by omega)⟩
    have hev := evV_len c s.tick 1 x.b (idxV c s.tick x.b x.c)
    refine ⟨⟨hs.rl, hs.rw', hs.pc, hs.sl, hs.sw, hs.us, hs.ol, ?_⟩, rfl⟩
    show (evV c s.tick 1 x.b (idxV c s.tick x.b x.c)).length ≤ (s.tl ++ [s.pc]).length
    have : s.tick.tr.length = s.tr.length := rfl
    omega
  · rw [if_neg (by omega), if_neg (by omega), if_neg (by omega), if_neg (by omega), if_pos e] at h
    cases h
    obtain ⟨i1, i2, i3, i4, i5, i6, i7, i8⟩ := idx_ok hc.1 hst h1
    have hev := evV_len c s.tick 2 x.a (idxV c s.tick x.a x.b)
    have hsl : s.tick.st = s.st := rfl
    refine ⟨⟨hg.rl, hg.rw', ⟨by show 0 ≤ s.pc + 1; omega, hnx (by omega) (by omega)⟩, ?_, fun i hi => ?_, hg.us, (by show s.ou.length ≤ (s.tl ++ [s.pc]).length; omega), ?_⟩, rfl⟩
    · show ((s.st.set _ _).length : Int) = _
      rw [List.length_set]; exact hg.sl
    · show wrdP c.w ((s.st.set _ _).getD i default)
      rw [getD_set (by unfold celV; rw [hsl] at i8; omega)]
      have hi : i < (s.st.set (celV c s.tick x.a x.b) (s.tick.r x.c)).length := hi
      rw [List.length_set] at hi
      split
      · exact (hg.reg h2).2
      · exact hg.sw i hi
    · show (evV c s.tick 2 x.a (idxV c s.tick x.a x.b)).length ≤ (s.tl ++ [s.pc]).length
      have : s.tick.tr.length = s.tr.length := rfl
      omega
  · rw [if_neg (by omega), if_neg (by omega), if_neg (by omega), if_neg (by omega), if_neg (by omega), if_neg (by omega)] at h
    simp only at h
    rw [if_pos e] at h
    cases h
    exact ⟨same _ h1, rfl⟩
  · rw [if_neg (by omega), if_neg (by omega), if_neg (by omega), if_neg (by omega), if_neg (by omega), if_neg (by omega)] at h
    simp only at h
    rw [if_neg (by omega), if_pos e] at h
    cases h
    have hnx' := hnx (by omega) (by omega)
    refine ⟨⟨hg.rl, hg.rw', ?_, hg.sl, hg.sw, hg.us, (by show s.ou.length ≤ (s.tl ++ [s.pc]).length; omega), ?_⟩, rfl⟩
    · show 0 ≤ (if s.tick.r x.a = 0 then x.b else s.pc + 1) ∧ (if s.tick.r x.a = 0 then x.b else s.pc + 1) < c.ins.length
      split
      · exact h2
      · exact ⟨by omega, hnx'⟩
    · show (s.tr ++ [_]).length ≤ (s.tl ++ [s.pc]).length
      simp; omega
  · rw [if_neg (by omega), if_neg (by omega), if_neg (by omega), if_neg (by omega), if_neg (by omega), if_pos e] at h
    cases h
    refine ⟨⟨hg.rl, hg.rw', ⟨by show 0 ≤ s.pc + 1; omega, hnx (by omega) (by omega)⟩, hg.sl, hg.sw, hg.us, ?_, (by show s.tr.length ≤ (s.tl ++ [s.pc]).length; omega)⟩, rfl⟩
    show (s.ou ++ [_]).length ≤ (s.tl ++ [s.pc]).length
    simp; omega
  · rw [if_neg (by omega), if_neg (by omega), if_neg (by omega), if_neg (by omega), if_neg (by omega), if_neg (by omega)] at h
    simp only at h
    rw [if_neg (by omega), if_neg (by omega)] at h
    have hnx' := hnx (by omega) (by omega)
    rcases e with e | e | e
    · rw [if_pos e] at h
      split at h
      · cases h
      · rename_i hu
        have hu : ¬ pk.length ≤ s.us := hu
        cases h
        have hs := hg.setR h1 (a := pk.getD s.us default) (hk _ (by omega)) (p := s.pc + 1) ⟨by omega, hnx'⟩
        exact ⟨⟨hs.rl, hs.rw', hs.pc, hs.sl, hs.sw, (by show s.us + 1 ≤ pk.length; omega), hs.ol, hs.tl⟩, rfl⟩
    · rw [if_neg (by omega), if_pos e] at h
      split at h
      · cases h
      · cases h; exact ⟨same _ ⟨by show 0 ≤ s.pc + 1; omega, hnx'⟩, rfl⟩
    · rw [if_neg (by omega), if_neg (by omega), if_pos e] at h
      split at h
      · cases h
      · cases h; exact ⟨same _ ⟨by show 0 ≤ s.pc + 1; omega, hnx'⟩, rfl⟩
  · rw [if_neg (by omega), if_neg (by omega), if_neg (by omega), if_neg (by omega), if_neg (by omega), if_neg (by omega)] at h
    simp only at h
    rw [if_neg (by omega), if_neg (by omega), if_neg (by omega), if_neg (by omega), if_neg (by omega)] at h
    cases h
end Go.Proofs.Ytffdcbhhajagjaa.Hm.V
