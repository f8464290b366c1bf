/- The program's machine of registers: a whole run. -/
import Derived.Test.YtffdcbhhajagjaaHF
import Derived.Test.YtffdcbhhajagjaaA6
import Derived.Test.YtffdcbhhajagjaaVM4
namespace Go.Proofs.Ytffdcbhhajagjaa.Hm.V
open Go
set_option linter.all false
set_option maxRecDepth 100000
attribute [local irreducible] X S R D W Call Upd Rds Rck Sees Res Cel CallP fnQ
theorem Gd.run {c : Cd} {pk : List Int} (hC : codeP c) (hk : wdsP c.w pk) : ∀ {n : Nat} {s : Cf}, Gd c pk s → Gd c pk (runP c pk n s).1
  | 0, s, h => h
  | n + 1, s, h => by
    rw [runP]
    cases hd : doP c pk (s.ins c) s.tick with
    | mk s' e =>
      cases e with
      | none => exact Gd.run hC hk (Gd.step hC hk h hd).1
      | some e =>
        have e2 : s' = s.tick := by
          unfold doP at hd
          cases hm : mvP c (s.ins c) s.tick with
          | some s2 => rw [hm] at hd; cases hd
          | none =>
            rw [hm] at hd
            dsimp only at hd
            repeat' split at hd
            all_goals first | (cases hd; rfl) | cases hd
        rw [e2]; exact h.tick
theorem run_tl {c : Cd} {pk : List Int} (hC : codeP c) (hk : wdsP c.w pk) : ∀ {n : Nat} {s : Cf}, Gd c pk s → (runP c pk n s).1.tl.length ≤ s.tl.length + n
  | 0, s, h => Nat.le_refl _
  | n + 1, s, h => by
    rw [runP]
    cases hd : doP c pk (s.ins c) s.tick with
    | mk s' e =>
      cases e with
      | none =>
        obtain ⟨g1, g2⟩ := Gd.step hC hk h hd
        have := run_tl hC hk (n := n) g1
        rw [g2, List.length_append, List.length_singleton] at this
        show (runP c pk n s').1.tl.length ≤ _
        omega
      | some e =>
        have e2 : s' = s.tick := by
          unfold doP at hd
          cases hm : mvP c (s.ins c) s.tick with
          | some s2 => rw [hm] at hd; cases hd
          | none =>
            rw [hm] at hd
            dsimp only at hd
            repeat' split at hd
            all_goals first | (cases hd; rfl) | cases hd
        rw [e2]
        show (s.tl ++ [s.pc]).length ≤ _
        simp
def begC (st : List Int) : Cf := ⟨List.replicate 64 0, 0, st, [], [], 0, []⟩
def startP (c : Cd) (st pk : List Int) : Prop := storeP c.w c.vs st ∧ pk.length ≤ 16 ∧ wdsP c.w pk
theorem beg_good {c : Cd} {st pk : List Int} (hC : codeP c) (hs : startP c st pk) : Gd c pk (begC st) := by
  have hp := pow_w hC.1.1.1 hC.1.1.2
  have h1 := hC.2.1
  refine ⟨rfl, fun i hi => ?_, ⟨Int.le_refl _, by show (0 : Int) < _; omega⟩, hs.1.1, hs.1.2, Nat.zero_le _, Nat.le_refl _, Nat.le_refl _⟩
  show wrdP c.w ((List.replicate 64 (0 : Int)).getD i default)
  have e : (List.replicate 64 (0 : Int)).getD i default = 0 := by rw [getD_eq (by simpa using hi), List.getElem_replicate]
  rw [e]
  unfold wrdP; omega
def fsL (vs : List Vr) (n : Nat) : List Int := (List.range n).map fun j => firstV vs j
theorem fsL_len (vs : List Vr) (n : Nat) : (fsL vs n).length = n := by simp [fsL]
theorem fsL_at {vs : List Vr} {n i : Nat} (h : i < n) : (fsL vs n).getD i default = firstV vs i := by rw [getD_eq (by rw [fsL_len]; exact h)]; simp [fsL]
theorem fsL_succ (vs : List Vr) (n : Nat) : fsL vs (n + 1) = fsL vs n ++ [firstV vs n] := by simp [fsL, List.range_succ]
/-- A start's value. -/
def StV (Z : Vw) (v : Value) (st pk : List Int) : Prop := ∃ va vb, v = .agg ⟨[va, vb]⟩ ∧ Ints Z va st ∧ Ints Z vb pk ∧ st.length < 9223372036854775808 ∧ pk.length < 9223372036854775808
theorem StV.le {Z Z' : Vw} {v : Value} {st pk : List Int} (k : StV Z v st pk) (hz : Z.le Z') : StV Z' v st pk := by
  obtain ⟨va, vb, rfl, h1, h2, h3⟩ := k
  exact ⟨va, vb, rfl, h1.le hz, h2.le hz, h3⟩
/-- The error of code, fuel and a start. -/
inductive ErrV (c : Cd) (fu : Int) (st pk : List Int) : Int → Prop
  | code (h : ¬ codeP c) : ErrV c fu st pk 80
  | arg (h : codeP c) (h2 : fu < 0 ∨ 4194304 < fu) : ErrV c fu st pk 1
  | start (h : codeP c) (h2 : 0 ≤ fu ∧ fu ≤ 4194304) (h3 : ¬ startP c st pk) : ErrV c fu st pk 50
  | ok (h : codeP c) (h2 : 0 ≤ fu ∧ fu ≤ 4194304) (h3 : startP c st pk) : ErrV c fu st pk 0
def nilS : Value := .slice none 0 0
def finC (e : Int) (s : Cf) (vst vou vtr : Value) : List Value := [.int .i64 s.pc, .int .i64 e, vst, vou, vtr, .int .i64 (s.tl.length : Nat), .int .i64 (s.us : Nat), .int .i64 (whP e s.pc)]
def runV (c : Cd) (st pk : List Int) (fu : Int) : Cf × Int := runP c pk fu.toNat (begC st)
set_option maxHeartbeats 4000000 in
theorem CloneI_ok (lo : Nat) {Z : Vw} {v : Value} {l : List Int} [hl : FzL Z 1 v (l.map cI)] (hlen : l.length ≤ 10000000) : Call F lo 23 [v] Z [] fun r Z' O' => O' = [.gro r 1 (l.map cI)] := by
  have hl := hl.out
  refine Fn (fn := c23) rfl rfl rfl ?_
  (refine W_seq ?_; (refine W_rgn ?_; ((refine Ra rfl (X_mv rfl ?_)) <;> (refine R_nil ?_))) <;> ((refine thenQ_nrm ?_; (refine W_seq ?_; (refine W_seq ?_; (refine W_rgn ?_; ((refine Ra rfl (X_mv rfl ?_)) <;> (refine Ra rfl (xNilZ rfl rfl (fun hv hx => ?_) ?_)) <;> (refine R_nil ?_))) <;> ((refine thenQ_nrm ?_; (refine W_cond rfl (fun ht => ?_) (fun ht => ?_) <;> (first | exact absurd ht (by decide) | (refine W_seq ?_; (refine W_rgn ?_; ((refine Ra rfl (X_mv rfl ?_)) <;> (refine R_nil ?_))) <;> ((refine thenQ_nrm ?_; (refine W_ret ?_)))) | (refine W_skip ?_)))))) <;> (first | refine thenQ_ret ?_ | (refine thenQ_nrm ?_; (refine W_seq ?_; (refine W_rgn ?_; ((refine Ra rfl (X_bsliceC Parts.nil rfl rfl rfl (fun v5 => ?_)); (rcases Nat.eq_zero_or_pos l.length with hl0 | hl0)) <;> (refine Ra rfl (X_mv rfl ?_)) <;> (first | (refine Ra rfl (xApA (xs := []) (c := 0) rfl rfl rfl (by simp only [List.length_map, List.length_nil]; omega) (by simp only [List.length_map, List.length_nil]; omega) (fun v7 => ?_))) | (refine Ra rfl (xApR (xs := []) (c := 0) rfl rfl (by simp only [List.length_map, List.length_nil]; omega) (fun v7 => ?_)))) <;> (refine Ra rfl (X_mv rfl ?_)) <;> (refine R_nil ?_))) <;> ((refine thenQ_nrm ?_; (refine W_ret ?_))))))))))
  <;> (refine fn_ret (Res.tmp rfl Res.nil) ?_)
  all_goals first
    | (have hl9 : l = [] := by simpa using hx
       subst hl9
       exact Upd.gro0 (e := 1) (by decide) (Upd.has (L := [.gro (.slice none 0 0) 1 (List.map cI [])]) (hG rfl Has.nil) rfl))
    | exact Upd.has (L := [.gro v7 1 (l.map cI)]) (hG rfl Has.nil) rfl
    | (have hl9 : l = [] := List.length_eq_zero_iff.1 hl0
       subst hl9
       exact Upd.has (L := [.gro v7 1 (List.map cI [])]) (hAG rfl rfl rfl Has.nil) rfl)
theorem getD_app {α : Type} [Inhabited α] {l l' : List α} {i : Nat} (h : i < l.length) : (l ++ l').getD i default = l.getD i default := by
  rw [List.getD_eq_getElem?_getD, List.getElem?_append_left h, List.getD_eq_getElem?_getD]
theorem getD_appr {α : Type} [Inhabited α] {l l' : List α} {i : Nat} : (l ++ l').getD (l.length + i) default = l'.getD i default := by
  rw [List.getD_eq_getElem?_getD, List.getElem?_append_right (by omega), List.getD_eq_getElem?_getD, show l.length + i - l.length = i by omega]
section
variable {F : Nat → Option HFn} {lo N : Nat} {A : Tab} {Z : Vw} {O : List Pt} {K : Value → Vw → List Pt → Prop} {a : Operand} {v : Value}
theorem xLenApp {α : Type} {fe : α → List Value} {l l' : List α} {e : Nat} [s : Se Z O v e (l.map fe ++ l'.map fe)] (hx : evA A a = some v) (k : K (.int .i64 ((l ++ l').length : Nat)) Z O) : X F lo (.len a) N A Z O K := X_len hx s.out (by simp) k
end
set_option maxHeartbeats 4000000 in
theorem ran_ok (lo : Nat) {Z : Vw} {v v2 : Value} {c : Cd} {st pk : List Int} (hv : CdV Z v c) (hs : StV Z v2 st pk) (fu : Int) : Call F lo 22 [v, .int .i64 fu, v2] Z [] fun r _ O => (∃ e, e ≠ 0 ∧ ErrV c fu st pk e ∧ r = .tuple ⟨[.agg ⟨zst⟩, .slice none 0 0, .int .i64 e]⟩ ∧ O = []) ∨ (ErrV c fu st pk 0 ∧ ∃ vst vou vtr vt, r = .tuple ⟨[.agg ⟨stC (runV c st pk fu).1.rg (finC (runV c st pk fu).2 (runV c st pk fu).1 vst vou vtr)⟩, vt, .int .i64 0]⟩ ∧ O = [.gro vst 1 ((runV c st pk fu).1.st.map cI), .gro vou 2 ((runV c st pk fu).1.ou.map Ou.c), .gro vtr 3 ((runV c st pk fu).1.tr.map Ev.c), .gro vt 1 ((runV c st pk fu).1.tl.map cI)]) := by
  have hV := hv
  obtain ⟨vv, vi, rfl, hvs, his, l1, l2, hnm⟩ := hv
  obtain ⟨va, vp, rfl, hva, hvp, l3, l4⟩ := hs
  refine Fn (fn := c22) rfl rfl rfl ?_
  (refine W_seq ?_; (refine W_rgn ?_; ((refine Ra rfl (xBox rfl (fun b3 => ?_))) <;> (refine Ra rfl (xBox rfl (fun b5 => ?_))) <;> (refine Ra rfl (X_alloc (fun b6 => ?_))) <;> (refine Ra rfl (X_mv rfl ?_)) <;> (refine Ra rfl (X_mv rfl ?_)) <;> (refine R_nil ?_))) <;> ((refine thenQ_nrm ?_; (refine W_seq ?_; (refine W_seq ?_; (refine W_rgn ?_; ((refine Ra rfl (X_load (lBA rfl rfl) ?_)) <;> (refine Ra rfl (xP (Check_ok lo (by first | assumption | exact CdV.le (by assumption) ZC.le)) rfl (fun _ Z18 hz18 hq => ?_)); (obtain ⟨e18, rfl, hq18⟩ := hq; rcases hq18 with ⟨rfl, hC⟩ | ⟨rfl, hC⟩ <;> try (have hh := hC.1; have hl18 := hh.2.2.1; have hfb := firstV_le (vs := c.vs) (v := c.vs.length) (fun j _ hj => hh.2.2.2.1 j hj) (Nat.le_refl _); have hf48 := hh.2.2.2.2; have hpw := pow_w hh.1.1 hh.1.2; obtain ⟨hw1, hw2⟩ := hh.1))) <;> (refine Ra rfl (X_mv rfl ?_)) <;> (refine R_nil ?_))) <;> ((refine thenQ_nrm ?_; (refine W_seq ?_; (refine W_rgn ?_; ((refine Ra rfl (X_mv rfl ?_)) <;> (first | (refine Ra rfl (X_bin (v := .bool true) rfl rfl rfl ?_)) | (refine Ra rfl (X_bin (v := .bool false) rfl rfl rfl ?_))) <;> (refine R_nil ?_))) <;> ((refine thenQ_nrm ?_; (refine W_cond rfl (fun ht => ?_) (fun ht => ?_) <;> (first | exact absurd ht (by decide) | (refine W_seq ?_; (refine W_rgn ?_; ((refine Ra rfl (X_buildC Parts.nil rfl ?_)) <;> (refine Ra rfl (X_mv rfl ?_)) <;> (refine Rn (xSW rfl rfl rfl rfl ?_)) <;> (refine Ra rfl (X_mv rfl ?_)) <;> (refine Ra rfl (X_mv rfl ?_)) <;> (refine R_nil ?_))) <;> ((refine thenQ_nrm ?_; (refine W_ret ?_)))) | (refine W_skip ?_))))))))) <;> (first | refine thenQ_ret ?_ | (refine thenQ_nrm ?_; (refine W_seq ?_; (refine W_seq ?_; (refine W_rgn ?_; ((refine Ra rfl (X_mv rfl ?_)) <;> (refine Ra rfl (X_lss rfl rfl (fun _ => ?_) (fun _ => ?_))) <;> (refine Ra rfl (X_mv rfl ?_)) <;> (first | (refine Rb rfl rfl (X_mv rfl ?_)) | (refine Rc rfl rfl ?_)) <;> (first | (refine Rb rfl rfl (X_gtr rfl rfl (fun _ => ?_) (fun _ => ?_))) | (refine Rc rfl rfl ?_)) <;> (first | (refine Ra rfl (X_pickT rfl rfl ?_)) | (refine Ra rfl (X_pickF rfl rfl ?_))) <;> (refine R_nil ?_))) <;> ((refine thenQ_nrm ?_; (refine W_cond rfl (fun ht => ?_) (fun ht => ?_) <;> (first | exact absurd ht (by decide) | (refine W_seq ?_; (refine W_rgn ?_; ((refine Ra rfl (X_buildC Parts.nil rfl ?_)) <;> (refine Rn (xSW rfl rfl rfl rfl ?_)) <;> (refine Ra rfl (X_mv rfl ?_)) <;> (refine Ra rfl (X_mv rfl ?_)) <;> (refine R_nil ?_))) <;> ((refine thenQ_nrm ?_; (refine W_ret ?_)))) | (refine W_skip ?_)))))) <;> (first | refine thenQ_ret ?_ | (refine thenQ_nrm ?_; (refine W_seq ?_; (refine W_rgn ?_; ((refine Ra rfl (X_load (lBA rfl rfl) ?_)) <;> (refine Ra rfl (X_faddr rfl ?_)) <;> (refine Ra rfl (X_load (lB rfl rfl) ?_)) <;> (refine Ra rfl (X_buildC (pCons rfl (pCons rfl Parts.nil)) rfl ?_)) <;> (refine Ra rfl (xBox rfl (fun b34 => ?_))) <;> (refine Ra rfl (X_mv rfl ?_)) <;> (refine R_nil ?_))) <;> ((refine thenQ_nrm ?_; (refine W_seq ?_; (refine W_rgn ?_; ((refine Ra rfl (X_mv rfl ?_)) <;> (refine R_nil ?_))) <;> ((refine thenQ_nrm ?_; (refine W_seq ?_; (refine W_seq ?_; (refine W_rgn ?_; ((refine Ra rfl (X_faddr rfl ?_)) <;> (refine Ra rfl (X_load (lB rfl rfl) ?_)) <;> (refine Ra rfl (xLen rfl ?_)) <;> (refine Ra rfl (X_mv rfl ?_)) <;> (refine R_nil ?_))) <;> ((refine thenQ_nrm ?_; (refine W_block ?_; ((
      refine wLoop (fun (p : Nat × Value) => match p with | (i, vfs) => [(38, .int .i64 (i : Nat)), (11, .int .i64 (firstV c.vs i))]) (fun p => match p with | (i, vfs) => [.box b34 [.int .i64 c.w, vv, vi, vfs, vp, .slice none 0 0], .gro vfs 1 ((fsL c.vs i).map cI), .box b3 [.int .i64 c.w, vv, vi], .box b5 [va, vp], .box b6 zst]) (fun p _ => match p with | (i, vfs) => i ≤ c.vs.length) (fun p => match p with | (i, _) => c.vs.length - i) (0, .slice none 0 0) (by repeat' (first | exact trivial | exact rfl | constructor)) (Upd.gro0 (e := 1) (by decide) (Upd.done ⟨Nat.zero_le _, hB rfl (hG rfl (hB rfl (hB rfl (hB rfl Has.nil))))⟩)) ?_
      rintro ⟨i, vfs⟩ Z1 hz1 hp
      have hi : i ≤ c.vs.length := hp
      have hfi := firstV_le (vs := c.vs) (v := i) (fun j _ hj => hh.2.2.2.1 j hj) hi
      have hci : i < c.vs.length → 1 ≤ (c.vs.getD i default).cs ∧ (c.vs.getD i default).cs ≤ 8 := fun h => ⟨(hh.2.2.2.1 i h).2.2.2.1, (hh.2.2.2.1 i h).2.2.2.2.1⟩
      have hfl := fsL_len c.vs i) <;> (refine W_seq ?_; (refine W_rgn ?_; ((refine Ra rfl (X_lss rfl rfl (fun _ => ?_) (fun _ => ?_))) <;> (refine R_nil ?_))) <;> ((refine thenQ_nrm ?_; (refine W_seq ?_; (refine W_cond rfl (fun ht => ?_) (fun ht => ?_) <;> (first | exact absurd ht (by decide) | (refine W_skip ?_) | (refine W_exit ?_))) <;> (first | refine thenQ_ext ?_ | (refine thenQ_nrm ?_; (refine W_seq ?_; (refine W_block ?_; (refine W_seq ?_; (refine W_rgn ?_; ((refine Ra rfl (xIa rfl rfl (by omega) (by omega) ?_)) <;> (refine Ra rfl (X_load (lEA rfl (by omega)) ?_)) <;> (refine Ra rfl (X_alloc (fun b13 => ?_))) <;> (refine Rn (xSW rfl rfl rfl rfl ?_)) <;> (refine R_nil ?_))) <;> ((refine thenQ_nrm ?_; (refine W_seq ?_; (refine W_rgn ?_; ((refine Ra rfl (X_mv rfl ?_)) <;> (refine Ra rfl (X_mv rfl ?_)) <;> (refine Ra rfl (X_nilchk rfl ?_)) <;> (refine Ra rfl (X_faddr rfl ?_)) <;> (refine Ra rfl (X_load (lB rfl rfl) ?_)) <;> (refine Ra rfl (X_mv rfl ?_)) <;> (refine Ra rfl (X_bsliceC (pCons rfl Parts.nil) rfl rfl rfl (fun v48 => ?_))) <;> (refine Ra rfl (xApGm (fe := cI) (firstV c.vs i) rfl rfl rfl (by omega) (fun v49 => ?_))) <;> (refine Ra rfl (X_nilchk rfl ?_)) <;> (refine Ra rfl (X_faddr rfl ?_)) <;> (refine Rn (xSB rfl rfl rfl rfl rfl ?_)) <;> (refine R_nil ?_))) <;> ((refine thenQ_nrm ?_; (refine W_rgn ?_; ((refine Ra rfl (X_mv rfl ?_)) <;> (refine Ra rfl (X_faddr rfl ?_)) <;> (refine Ra rfl (X_load (lB rfl rfl) ?_)) <;> (refine Ra rfl (X_addI rfl rfl (by omega) (by omega) ?_)) <;> (refine Ra rfl (X_mv rfl ?_)) <;> (refine R_nil ?_))))))))) <;> (refine blockQ_nrm ?_)) <;> ((refine thenQ_nrm ?_; (refine W_rgn ?_; ((refine Ra rfl (X_addI rfl rfl (by omega) (by omega) ?_)) <;> (refine Ra rfl (X_mv rfl ?_)) <;> (refine R_nil ?_)))))))))))) <;> (first | refine thenQ_ext ?_ | (refine thenQ_nrm ?_; (
        refine Upd.done ⟨(i + 1, _), ?_, ?_, ?_, hB rfl (hG ?_ (hB rfl (hB rfl (hB rfl Has.nil))))⟩
        · show c.vs.length - (i + 1) < c.vs.length - i
          omega
        · show i + 1 ≤ c.vs.length
          omega
        · show SubT [(38, .int .i64 ((i + 1 : Nat) : Int)), (11, .int .i64 (firstV c.vs (i + 1)))] _
          rw [firstV_succ (by omega)]
          exact (by repeat' (first | exact trivial | exact rfl | constructor))
        · rw [fsL_succ])))) <;> (refine blockQ_ext ?_))))) <;> ((refine thenQ_nrm ?_; (refine W_seq ?_; (refine W_seq ?_; (refine W_rgn ?_; ((refine Ra rfl (X_faddr rfl ?_)) <;> (refine Ra rfl (X_load (lB rfl rfl) ?_)) <;> (refine Ra rfl (xLen rfl ?_)) <;> (refine Ra rfl (X_mv rfl ?_)) <;> (refine Ra rfl (X_neq rfl rfl (fun _ => ?_) (fun _ => ?_))) <;> (refine Ra rfl (X_mv rfl ?_)) <;> (first | (refine Rb rfl rfl (X_faddr rfl ?_)) | (refine Rc rfl rfl ?_)) <;> (first | (refine Rb rfl rfl (X_load (lB rfl rfl) ?_)) | (refine Rc rfl rfl ?_)) <;> (first | (refine Rb rfl rfl (xLen rfl ?_)) | (refine Rc rfl rfl ?_)) <;> (first | (refine Rb rfl rfl (X_gtr rfl rfl (fun _ => ?_) (fun _ => ?_))) | (refine Rc rfl rfl ?_)) <;> (first | (refine Ra rfl (X_pickT rfl rfl ?_)) | (refine Ra rfl (X_pickF rfl rfl ?_))) <;> (refine R_nil ?_))) <;> ((refine thenQ_nrm ?_; (refine W_cond rfl (fun ht => ?_) (fun ht => ?_) <;> (first | exact absurd ht (by decide) | (refine W_seq ?_; (refine W_rgn ?_; ((refine Ra rfl (X_buildC Parts.nil rfl ?_)) <;> (refine Rn (xSW rfl rfl rfl rfl ?_)) <;> (refine Ra rfl (X_mv rfl ?_)) <;> (refine Ra rfl (X_mv rfl ?_)) <;> (refine R_nil ?_))) <;> ((refine thenQ_nrm ?_; (refine W_ret ?_)))) | (refine W_skip ?_)))))) <;> (first | refine thenQ_ret ?_ | (refine thenQ_nrm ?_; (refine W_seq ?_; (refine W_seq ?_; (refine W_drw ?_; ((refine Da rfl rfl (X_faddr rfl ?_)) <;> (refine Da rfl rfl (X_load (lB rfl rfl) ?_)) <;> (refine Da rfl rfl (X_faddr rfl ?_)) <;> (refine Da rfl rfl (X_load (lB rfl rfl) ?_)) <;> (refine Da rfl rfl (X_mv rfl ?_)) <;> (refine D_consR rfl (S_do rfl (xCg (CloneI_ok lo (by omega)) rfl (fun v71 Z71 hz71 => ⟨(by (refine rDo rfl rfl (lB rfl rfl) ?_); exact Rck_nil), ?_⟩)))) <;> (refine Da rfl rfl (xApG rfl rfl (by simp only [List.length_map]; omega) (fun v74 => ?_))) <;> (refine Da rfl rfl (xLenApp rfl ?_)) <;> (refine D_nil ?_))) <;> ((refine thenQ_nrm ?_; (refine W_block ?_; ((
      have hin : i = c.vs.length := by omega
      subst hin
      have hlst : st.length ≤ 48 := by omega
      refine wLoop (fun i : Nat => [(76, .int .i64 i)]) (fun _ => [.gro v74 1 ((st ++ pk).map cI), .box b34 [.int .i64 c.w, vv, vi, vfs, vp, .slice none 0 0], .gro vfs 1 ((fsL c.vs c.vs.length).map cI), .box b3 [.int .i64 c.w, vv, vi], .box b5 [va, vp], .box b6 zst]) (fun i _ => i ≤ (st ++ pk).length ∧ ∀ j, j < i → wrdP c.w ((st ++ pk).getD j default)) (fun i => (st ++ pk).length - i) 0 (by repeat' (first | exact trivial | exact rfl | constructor)) (Upd.done ⟨⟨Nat.zero_le _, fun j hj => absurd hj (by omega)⟩, hG (by rw [List.map_append]) (hB rfl (hG rfl (hB rfl (hB rfl (hB rfl Has.nil)))))⟩) ?_
      intro i Z1 hz1 hp
      obtain ⟨hi, hp⟩ := hp
      have hsp : (st ++ pk).length = st.length + pk.length := List.length_append) <;> (refine W_seq ?_; (refine W_rgn ?_; ((refine Ra rfl (X_lss rfl rfl (fun _ => ?_) (fun _ => ?_))) <;> (refine R_nil ?_))) <;> ((refine thenQ_nrm ?_; (refine W_seq ?_; (refine W_cond rfl (fun ht => ?_) (fun ht => ?_) <;> (first | exact absurd ht (by decide) | (refine W_skip ?_) | (refine W_exit ?_))) <;> (first | refine thenQ_ext ?_ | (refine thenQ_nrm ?_; (refine W_seq ?_; (refine W_block ?_; (refine W_seq ?_; (refine W_rgn ?_; ((refine Ra rfl (xIa rfl rfl (by omega) (by omega) ?_)) <;> (refine Ra rfl (X_load (lE0 rfl (by omega) rfl) ?_)) <;> (refine Ra rfl (X_mv rfl ?_)) <;> (refine R_nil ?_))) <;> ((refine thenQ_nrm ?_; (refine W_seq ?_; (refine W_rgn ?_; ((refine Ra rfl (X_mv rfl ?_)) <;> (refine Ra rfl (X_lss rfl rfl (fun _ => ?_) (fun _ => ?_))) <;> (refine Ra rfl (X_mv rfl ?_)) <;> (first | (refine Rb rfl rfl (X_mv rfl ?_)) | (refine Rc rfl rfl ?_)) <;> (first | (refine Rb rfl rfl (X_faddr rfl ?_)) | (refine Rc rfl rfl ?_)) <;> (first | (refine Rb rfl rfl (X_load (lB rfl rfl) ?_)) | (refine Rc rfl rfl ?_)) <;> (first | (refine Rb rfl rfl (X_convU rfl (by omega) (by omega) ?_)) | (refine Rc rfl rfl ?_)) <;> (first | (refine Rb rfl rfl (X_shlI rfl rfl (by omega) (by omega) (by omega) (by omega) ?_)) | (refine Rc rfl rfl ?_)) <;> (first | (refine Rb rfl rfl (X_geq rfl rfl (fun _ => ?_) (fun _ => ?_))) | (refine Rc rfl rfl ?_)) <;> (first | (refine Ra rfl (X_pickT rfl rfl ?_)) | (refine Ra rfl (X_pickF rfl rfl ?_))) <;> (refine R_nil ?_))) <;> ((refine thenQ_nrm ?_; (refine W_cond rfl (fun ht => ?_) (fun ht => ?_) <;> (first | exact absurd ht (by decide) | (refine W_seq ?_; (refine W_rgn ?_; ((refine Ra rfl (X_buildC Parts.nil rfl ?_)) <;> (refine Rn (xSW rfl rfl rfl rfl ?_)) <;> (refine Ra rfl (X_mv rfl ?_)) <;> (refine Ra rfl (X_mv rfl ?_)) <;> (refine R_nil ?_))) <;> ((refine thenQ_nrm ?_; (refine W_ret ?_)))) | (refine W_skip ?_))))))))) <;> (first | refine blockQ_nrm ?_ | refine blockQ_ret ?_)) <;> (first | refine thenQ_ret ?_ | (refine thenQ_nrm ?_; (refine W_rgn ?_; ((refine Ra rfl (X_addI rfl rfl (by omega) (by omega) ?_)) <;> (refine Ra rfl (X_mv rfl ?_)) <;> (refine R_nil ?_)))))))))))) <;> (first | refine thenQ_ret ?_ | refine thenQ_ext ?_ | (refine thenQ_nrm ?_; (
        refine Upd.done ⟨i + 1, by omega, ⟨by omega, fun j hj => ?_⟩, (by repeat' (first | exact trivial | exact rfl | constructor)), hG rfl (hB rfl (hG rfl (hB rfl (hB rfl (hB rfl Has.nil)))))⟩
        rcases Nat.lt_or_ge j i with hj | hj
        · exact hp j hj
        · obtain rfl : j = i := by omega
          unfold wrdP; omega)))) <;> (first | refine blockQ_ret ?_ | refine blockQ_ext ?_))))) <;> (first | refine thenQ_ret ?_ | (refine thenQ_nrm ?_; (refine W_seq ?_; (refine W_rgn ?_; ((refine Ra rfl (X_mv rfl ?_); (have hS : startP c st pk := ⟨⟨by omega, fun j hj => by have := hp j (by omega); rw [getD_app hj] at this; exact this⟩, by omega, fun j hj => by have := hp (st.length + j) (by omega); rw [getD_appr] at this; exact this⟩)) <;> (refine Ra rfl (X_faddr rfl ?_)) <;> (refine Ra rfl (X_load (lB rfl rfl) ?_)) <;> (refine Ra rfl (xCg (CloneI_ok lo (by omega)) rfl (fun v95 Z95 hz95 => ?_))) <;> (refine Ra rfl (X_buildC (pCons rfl Parts.nil) rfl ?_)) <;> (refine Ra rfl (X_buildC (pCons rfl Parts.nil) rfl ?_)) <;> (refine Ra rfl (X_mv rfl ?_)) <;> (refine Ra rfl (X_upd ?_); (refine uG vfs fun Zf hzf hff => ?_; refine Upd.gro0 (e := 1) (by decide) ?_; refine Upd.gro0 (e := 3) (by decide) ?_; refine Upd.gro0 (e := 2) (by decide) ?_; refine Upd.done ?_; refine xN (goes_ok lo (s0 := begC st) (n0 := fu.toNat) (pk := pk) (vt := .slice none 0 0) (vou := .slice none 0 0) (vtr := .slice none 0 0) (hvs.le ZC.le) (his.le ZC.le) hff (fsL_len _ _) (fun i hi => fsL_at (by rw [fsL_len] at hi; exact hi)) (hvp.le ZC.le) hC hS.2.2 hS.2.1 (beg_good hC hS) (by show 0 + fu.toNat ≤ _; omega)) (by rw [show ((fu.toNat : Nat) : Int) = fu by omega]; exact rfl) (pB rfl (pG rfl (pG rfl (pG rfl (pG rfl .nil))))) (fun _ Z99 o99 hz99 ho O2 hO => ?_); obtain ⟨vou, vtr, vt, ho, hr⟩ := ho; subst ho; subst hr; simp only [List.cons_append, List.nil_append] at hO; subst hO; have hrl := (Gd.run hC hS.2.2 (n := fu.toNat) (beg_good hC hS)).rl)) <;> (refine Ra rfl (X_alloc (fun b16 => ?_))) <;> (refine Rn (xSW rfl rfl (by exact st_beq hrl rfl) rfl ?_)) <;> (refine R_nil ?_))) <;> ((refine thenQ_nrm ?_; (refine W_seq ?_; (refine W_drw ?_; ((refine Da rfl rfl (X_load (lBA rfl (by exact st_beq hrl rfl)) ?_)) <;> (refine Da rfl rfl (X_mv rfl ?_)) <;> (refine Da rfl rfl (X_nilchk rfl ?_)) <;> (refine Da rfl rfl (X_faddr rfl ?_)) <;> (refine Da rfl rfl (X_load (lB rfl rfl) ?_)) <;> (refine D_consR rfl (S_dn (xSW rfl rfl (by exact st_beq hrl rfl) rfl ⟨(by (refine rDo rfl rfl (lB rfl rfl) ?_); exact Rck_nil), ?_⟩))) <;> (refine Da rfl rfl (X_mv rfl ?_)) <;> (refine Da rfl rfl (X_mv rfl ?_)) <;> (refine D_nil ?_))) <;> ((refine thenQ_nrm ?_; (refine W_ret ?_)))))))))))))))))))))))))))))))
  <;> (refine fn_ret (rA rfl (by first | exact rfl | exact st_beq hrl rfl) (Res.tmp rfl (Res.tmp rfl Res.nil))) ?_)
  all_goals first
    | exact Upd.nil (.inl ⟨80, by decide, .code hC, rfl, rfl⟩)
    | exact Upd.nil (.inl ⟨1, by decide, .arg hC (by omega), rfl, rfl⟩)
    | (refine Upd.nil (.inl ⟨50, by decide, .start hC (by omega) (fun h => ?_), rfl, rfl⟩)
       obtain ⟨⟨h1, h2⟩, h3, h4⟩ := h
       first
         | (exfalso; omega)
         | (have hin : i = c.vs.length := by omega
            subst hin
            exfalso; omega)
         | (rcases Nat.lt_or_ge i st.length with hi2 | hi2
            · have h5 := h2 i hi2
              have e5 : (st ++ pk).getD i default = st.getD i default := getD_app hi2
              unfold wrdP at h5
              omega
            · have h5 := h4 (i - st.length) (by omega)
              have e5 : (st ++ pk).getD (st.length + (i - st.length)) default = pk.getD (i - st.length) default := getD_appr
              rw [show st.length + (i - st.length) = i by omega] at e5
              unfold wrdP at h5
              omega))
    | exact Upd.has (hG rfl (hG rfl (hG rfl (hG rfl Has.nil)))) (.inr ⟨.ok hC (by omega) hS, _, _, _, _, rfl, rfl⟩)
end Go.Proofs.Ytffdcbhhajagjaa.Hm.V
