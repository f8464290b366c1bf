import Derived.Test.YtbjgnogcjglcoaaHF
import Derived.Test.YtbjgnogcjglcoaaA6
import Derived.Test.YtbjgnogcjglcoaaVT6
namespace Go.Proofs.Ytbjgnogcjglcoaa.Hm.V
open Go
set_option linter.all false
set_option maxRecDepth 100000
attribute [local irreducible] X S R D W Call Upd Rds Rck Sees Res Cel CallP fnQ
def liftE (m : Nat) (x : Ed) : Ed := ⟨x.f, (m : Int), x.t⟩
def liftN (g : List Ed) (fr : List Int) : Nat → List Ed
  | 0 => []
  | m + 1 => liftN g fr m ++ (byL g (fr.getD m default).toNat).map (liftE m)
def liftAu (a : Au) (fr : List Int) : Au := ⟨a.S, (fr.length : Int), a.st, a.en, liftN a.ed fr fr.length⟩
def liftOk (a : Au) (fr : List Int) : Prop := 1 ≤ fr.length ∧ fr.length ≤ 1024 ∧ lettersP a.L fr
theorem liftN_len (g : List Ed) (fr : List Int) (m : Nat) : (liftN g fr (m + 1)).length = (liftN g fr m).length + (byL g (fr.getD m default).toNat).length := by simp [liftN]
theorem liftN_small {g : List Ed} (fr : List Int) (hg : (g.length : Int) ≤ 200000) : ∀ m, (liftN g fr m).length ≤ m * 200000
  | 0 => by simp [liftN]
  | m + 1 => by
    have h1 := liftN_small fr hg m
    have h2 := byL_le g (fr.getD m default).toNat
    rw [liftN_len]; omega
theorem liftN_mem {g : List Ed} {fr : List Int} {x : Ed} : ∀ {n : Nat}, x ∈ liftN g fr n ↔ ∃ m, m < n ∧ ∃ y ∈ g, y.l.toNat = (fr.getD m default).toNat ∧ liftE m y = x
  | 0 => by simp [liftN]
  | n + 1 => by
    show x ∈ liftN g fr n ++ _ ↔ _
    rw [List.mem_append, liftN_mem, List.mem_map]
    constructor
    · rintro (⟨m, h1, h2⟩ | ⟨y, hy, e⟩)
      · exact ⟨m, by omega, h2⟩
      · obtain ⟨h1, h2⟩ := byL_mem.1 hy
        exact ⟨n, by omega, y, h1, h2, e⟩
    · rintro ⟨m, h1, y, h2, h3, e⟩
      rcases Nat.lt_or_ge m n with h4 | h4
      · exact .inl ⟨m, h4, y, h2, h3, e⟩
      · obtain rfl : m = n := by omega
        exact .inr ⟨y, byL_mem.2 ⟨h2, h3⟩, e⟩
theorem lift_raw {a : Au} {fr : List Int} (h : isAutoP a) (hr : liftOk a fr) : rawAu (liftAu a fr) := by
  obtain ⟨r1, r2, r4⟩ := hr
  refine ⟨h.1, h.2.1, by show 1 ≤ (fr.length : Int); omega, by show (fr.length : Int) ≤ 1024; omega, h.2.2.2.2.2.1, h.2.2.2.2.2.2.1, fun x hx => ?_⟩
  obtain ⟨m, hm, y, hy, _, rfl⟩ := liftN_mem.1 hx
  obtain ⟨h1, h2, h3, h4, h5, h6⟩ := edsIn.of h y hy
  exact ⟨h1, h2, h3, h4, by show 0 ≤ (m : Int); omega, by show (m : Int) < (fr.length : Int); omega⟩
def liftQ (a : Au) (fr : List Int) (r : Value) (Z : Vw) : Prop := (¬ isAutoP a ∧ r = .tuple ⟨[noAuV, .int .i64 270]⟩) ∨ (isAutoP a ∧ ¬ liftOk a fr ∧ r = .tuple ⟨[noAuV, .int .i64 1]⟩) ∨ (isAutoP a ∧ liftOk a fr ∧ 200000 < (liftN a.ed fr fr.length).length ∧ r = .tuple ⟨[noAuV, .int .i64 5]⟩) ∨ (isAutoP a ∧ liftOk a fr ∧ (liftN a.ed fr fr.length).length ≤ 200000 ∧ ∃ v, r = .tuple ⟨[v, .int .i64 0]⟩ ∧ AuV Z v (doneAu (liftAu a fr)))
set_option maxHeartbeats 4000000 in
theorem LiftA_ok (lo : Nat) {Z : Vw} {v vt : Value} {a : Au} {fr : List Int} [ht : IntsL Z vt fr] (ha : AuV Z v a) (hml : fr.length < 9223372036854775808) : CallP F lo 45 [v, vt] Z fun r Z' => liftQ a fr r Z' := by
  have ht := ht.out
  have hV := ha
  obtain ⟨vs, ve, vg, rfl, hs, he, hg, q1, q2, q3⟩ := ha
  refine FnP (fn := c45) rfl rfl rfl ?_
  (refine W_seq ?_; (refine W_rgn ?_; ((refine Ra rfl (xBox rfl (fun b2 => ?_))) <;> (refine Ra rfl (X_alloc (fun b4 => ?_))) <;> (refine Ra rfl (X_mv rfl ?_)) <;> (refine R_nil ?_))) <;> ((refine thenQ_nrm ?_; (refine W_seq ?_; (refine W_seq ?_; (refine W_rgn ?_; ((refine Ra rfl (X_load (lBA rfl rfl) ?_)) <;> (refine Ra rfl (xP (Check_ok lo (by first | assumption | exact AuV.le (by assumption) ZC.le)) rfl (fun _ Z18 hz18 hq => ?_)); (obtain ⟨cc, rfl, hc⟩ := hq; rcases hc with ⟨rfl, hA⟩ | ⟨rfl, hA⟩ <;> try (have hS0 := hA.1; have hS1 := hA.2.1; have hL0 := hA.2.2.1; have hL1 := hA.2.2.2.1; have hedl := hA.2.2.2.2.1; have hrst := hA.2.2.2.2.2.1; have hren := hA.2.2.2.2.2.2.1; have hstl := rising_len hrst hS0; have henl := rising_len hren hS0; have hedi := edsIn.of hA))) <;> (refine Ra rfl (X_mv rfl ?_)) <;> (refine R_nil ?_))) <;> ((refine thenQ_nrm ?_; (refine W_seq ?_; (refine W_rgn ?_; ((refine Ra rfl (X_mv rfl ?_)) <;> (first | (refine Ra rfl (X_bin (v := .bool true) rfl rfl rfl ?_)) | (refine Ra rfl (X_bin (v := .bool false) rfl rfl rfl ?_))) <;> (refine R_nil ?_))) <;> ((refine thenQ_nrm ?_; (refine W_cond rfl (fun ht => ?_) (fun ht => ?_) <;> (first | exact absurd ht (by decide) | (refine W_seq ?_; (refine W_rgn ?_; ((refine Ra rfl (X_buildC Parts.nil rfl ?_)) <;> (refine Ra rfl (X_mv rfl ?_)) <;> (refine Rn (xSW rfl rfl rfl rfl ?_)) <;> (refine Ra rfl (X_mv rfl ?_)) <;> (refine R_nil ?_))) <;> ((refine thenQ_nrm ?_; (refine W_ret ?_)))) | (refine W_skip ?_))))))))) <;> (first | refine thenQ_ret ?_ | (refine thenQ_nrm ?_; (refine W_seq ?_; (refine W_rgn ?_; ((refine Ra rfl (X_mkfunc rfl rfl ?_)) <;> (refine Ra rfl (X_mv rfl ?_)) <;> (refine R_nil ?_))) <;> ((refine thenQ_nrm ?_; (refine W_seq ?_; (refine W_seq ?_; (refine W_rgn ?_; ((refine Ra rfl (X_mv rfl ?_)) <;> (refine Ra rfl (xLen rfl ?_)) <;> (refine Ra rfl (X_lss rfl rfl (fun _ => ?_) (fun _ => ?_))) <;> (refine Ra rfl (X_mv rfl ?_)) <;> (first | (refine Rb rfl rfl (X_mv rfl ?_)) | (refine Rc rfl rfl ?_)) <;> (first | (refine Rb rfl rfl (xLen rfl ?_)) | (refine Rc rfl rfl ?_)) <;> (first | (refine Rb rfl rfl (X_gtr rfl rfl (fun _ => ?_) (fun _ => ?_))) | (refine Rc rfl rfl ?_)) <;> (first | (refine Ra rfl (X_pickT rfl rfl ?_)) | (refine Ra rfl (X_pickF rfl rfl ?_))) <;> (refine Ra rfl (X_mv rfl ?_)) <;> (first | (refine Rb rfl rfl (X_mv rfl ?_)) | (refine Rc rfl rfl ?_)) <;> (first | (refine Rb rfl rfl (X_mv rfl ?_)) | (refine Rc rfl rfl ?_)) <;> (first | (refine Rb rfl rfl (xNe (L' := [.box b2 [.int .i64 a.S, .int .i64 a.L, vs, ve, vg]]) (ContainsFunc_ok lo hml (.of fun x Z' => bad2_ok lo)) rfl (pB rfl Pick.nil) (fun r35 Z35 hz35 hq => ?_)); (obtain ⟨q35, rfl, hq35⟩ := hq; rw [not_letters] at hq35; cases q35)) | (refine Rc rfl rfl ?_)) <;> (first | (refine Ra rfl (X_pickT rfl rfl ?_)) | (refine Ra rfl (X_pickF rfl rfl ?_))) <;> (refine R_nil ?_))) <;> ((refine thenQ_nrm ?_; (refine W_cond rfl (fun ht => ?_) (fun ht => ?_) <;> (first | exact absurd ht (by decide) | (refine W_seq ?_; (refine W_rgn ?_; ((refine Ra rfl (X_buildC Parts.nil rfl ?_)) <;> (refine Rn (xSW rfl rfl rfl rfl ?_)) <;> (refine Ra rfl (X_mv rfl ?_)) <;> (refine R_nil ?_))) <;> ((refine thenQ_nrm ?_; (refine W_ret ?_)))) | (refine W_skip ?_)))))) <;> (first | refine thenQ_ret ?_ | (refine thenQ_nrm ?_; (refine W_seq ?_; (refine W_rgn ?_; ((refine Ra rfl (X_load (lBA rfl rfl) ?_)) <;> (refine Ra rfl (xP (byLetter_ok lo (by first | assumption | exact AuV.le (by assumption) ZC.le) hA) rfl (fun v39 Z39 hz39 hq => ?_)); (obtain ⟨ws, hws, hwl, hwk⟩ := hq)) <;> (refine Ra rfl (X_mv rfl ?_)) <;> (refine R_nil ?_))) <;> ((refine thenQ_nrm ?_; (refine W_seq ?_; (refine W_rgn ?_; ((refine Ra rfl (X_mv rfl ?_)) <;> (refine R_nil ?_))) <;> ((refine thenQ_nrm ?_; (refine W_seq ?_; (refine W_seq ?_; (refine W_rgn ?_; ((refine Ra rfl (X_mv rfl ?_)) <;> (refine Ra rfl (xLen rfl ?_)) <;> (refine Ra rfl (X_mv rfl ?_)) <;> (refine R_nil ?_))) <;> ((refine thenQ_nrm ?_; (refine W_block ?_; ((
      have hlt : lettersP a.L fr := Classical.byContradiction fun hh => absurd (hq35.2 hh) (by decide)
      have hok : liftOk a fr := ⟨by omega, by omega, hlt⟩
      refine wLoop (fun m : Nat => [(42, .int .i64 (m : Nat)), (9, .int .i64 (((liftN a.ed fr m).length : Nat) : Int))]) (fun _ => [.box b4 [.int .i64 0, .int .i64 0, .slice none 0 0, .slice none 0 0, .slice none 0 0], .box b2 [.int .i64 a.S, .int .i64 a.L, vs, ve, vg]]) (fun m _ => m ≤ fr.length) (fun m => fr.length - m) 0 (by repeat' (first | exact trivial | exact rfl | constructor))
        (Upd.done ⟨Nat.zero_le _, hB rfl (hB rfl Has.nil)⟩) ?_
      intro m Z2 hz2 hm
      have hel := hlt m
      have hN := liftN_small fr hedl m
      have hM := byL_le a.ed (fr.getD m default).toNat) <;> (refine W_seq ?_; (refine W_rgn ?_; ((refine Ra rfl (X_lss rfl rfl (fun _ => ?_) (fun _ => ?_))) <;> (refine R_nil ?_))) <;> ((refine thenQ_nrm ?_; (refine W_seq ?_; (refine W_cond rfl (fun ht => ?_) (fun ht => ?_) <;> (first | exact absurd ht (by decide) | (refine W_skip ?_) | (refine W_exit ?_))) <;> (first | refine thenQ_ext ?_ | (refine thenQ_nrm ?_; (refine W_seq ?_; (refine W_block ?_; (refine W_seq ?_; (refine W_rgn ?_; ((refine Ra rfl (xIa rfl rfl (by omega) (by omega) ?_)) <;> (refine Ra rfl (X_load (lE0 rfl (by omega) rfl) ?_)) <;> (refine Ra rfl (X_mv rfl ?_)) <;> (refine R_nil ?_))) <;> ((refine thenQ_nrm ?_; (refine W_rgn ?_; ((refine Ra rfl (X_mv rfl ?_)) <;> (refine Ra rfl (X_mv rfl ?_)) <;> (refine Ra rfl (X_mv rfl ?_)) <;> (refine Ra rfl (xIa rfl rfl (by omega) (by omega) ?_)) <;> (refine Ra rfl (X_load (lE0 rfl (by omega) rfl) ?_); (have hk50 := hwk (fr.getD m default).toNat (by omega))) <;> (refine Ra rfl (xLen rfl ?_)) <;> (refine Ra rfl (X_addI rfl rfl (by omega) (by omega) ?_)) <;> (refine Ra rfl (X_mv rfl ?_)) <;> (refine R_nil ?_)))))) <;> (refine blockQ_nrm ?_)) <;> ((refine thenQ_nrm ?_; (refine W_rgn ?_; ((refine Ra rfl (X_addI rfl rfl (by omega) (by omega) ?_)) <;> (refine Ra rfl (X_mv rfl ?_)) <;> (refine R_nil ?_)))))))))))) <;> (first | refine thenQ_ext ?_ | (refine thenQ_nrm ?_; (
        refine Upd.done ⟨m + 1, by omega, by omega, ?_, hB rfl (hB rfl Has.nil)⟩
        rw [liftN_len, Int.natCast_add]
        exact (by repeat' (first | exact trivial | exact rfl | constructor)))))) <;> (refine blockQ_ext ?_))))) <;> ((refine thenQ_nrm ?_; (refine W_seq ?_; (refine W_seq ?_; (refine W_rgn ?_; ((refine Ra rfl (X_mv rfl ?_)) <;> (refine Ra rfl (X_gtr rfl rfl (fun _ => ?_) (fun _ => ?_))) <;> (refine R_nil ?_))) <;> ((refine thenQ_nrm ?_; (refine W_cond rfl (fun ht => ?_) (fun ht => ?_) <;> (first | exact absurd ht (by decide) | (refine W_seq ?_; (refine W_rgn ?_; ((refine Ra rfl (X_buildC Parts.nil rfl ?_)) <;> (refine Rn (xSW rfl rfl rfl rfl ?_)) <;> (refine Ra rfl (X_mv rfl ?_)) <;> (refine R_nil ?_))) <;> ((refine thenQ_nrm ?_; (refine W_ret ?_)))) | (refine W_skip ?_)))))) <;> (first | refine thenQ_ret ?_ | (refine thenQ_nrm ?_; (refine W_seq ?_; (refine W_drw ?_; ((refine Da rfl rfl (X_faddr rfl ?_)) <;> (refine Da rfl rfl (X_load (lB rfl rfl) ?_)) <;> (refine Da rfl rfl (X_mv rfl ?_)) <;> (refine Da rfl rfl (xLen rfl ?_)) <;> (refine Da rfl rfl (X_faddr rfl ?_)) <;> (refine Da rfl rfl (X_load (lB rfl rfl) ?_)) <;> (refine Da rfl rfl (X_faddr rfl ?_)) <;> (refine Da rfl rfl (X_load (lB rfl rfl) ?_)) <;> (refine Da rfl rfl (X_alloc (fun b12 => ?_))) <;> (refine D_consR rfl (S_do rfl (xCg (CloneG1_ok lo (by omega)) rfl (fun w63 Z63 hz63 => ⟨(by (refine rDo rfl rfl (lB rfl rfl) ?_); (refine rDo rfl rfl (lB rfl rfl) ?_); exact Rck_nil), ?_⟩)))) <;> (refine D_consR rfl (S_do rfl (xCg (CloneG1_ok lo (by omega)) rfl (fun w66 Z66 hz66 => ⟨(by (refine rDo rfl rfl (lB rfl rfl) ?_); exact Rck_nil), ?_⟩)))) <;> (refine Da rfl rfl (X_buildC (pCons rfl (pCons rfl (pCons rfl (pCons rfl Parts.nil)))) rfl ?_)) <;> (refine Da rfl rfl (X_buildC (pCons rfl Parts.nil) rfl ?_)) <;> (refine Dn rfl (xSW rfl rfl rfl rfl ?_)) <;> (refine D_nil ?_))) <;> ((refine thenQ_nrm ?_; (refine W_seq ?_; (refine W_seq ?_; (refine W_rgn ?_; ((refine Ra rfl (X_mv rfl ?_)) <;> (refine Ra rfl (xLen rfl ?_)) <;> (refine Ra rfl (X_mv rfl ?_)) <;> (refine R_nil ?_))) <;> ((refine thenQ_nrm ?_; (refine W_block ?_; ((
      obtain rfl : m = fr.length := by omega
      have hsm0 : (liftN a.ed fr fr.length).length ≤ 200000 := by omega
      refine wLoop (fun p : Nat × Value => match p with | (m, we) => [(71, .int .i64 (m : Nat))]) (fun p => match p with | (m, we) => [.box b12 [.int .i64 a.S, .int .i64 fr.length, w63, w66, we], .gro w63 1 (a.st.map cI), .gro w66 1 (a.en.map cI), .gro we 3 ((liftN a.ed fr m).map Ed.c), .box b4 [.int .i64 0, .int .i64 0, .slice none 0 0, .slice none 0 0, .slice none 0 0], .box b2 [.int .i64 a.S, .int .i64 a.L, vs, ve, vg]]) (fun p _ => match p with | (m, _) => m ≤ fr.length) (fun p => match p with | (m, _) => fr.length - m) (0, .slice none 0 0) (by repeat' (first | exact trivial | exact rfl | constructor))
        (Upd.gro0 (e := 3) (by decide) (Upd.done ⟨Nat.zero_le _, hB rfl (hG rfl (hG rfl (hG (by simp [liftN]) (hB rfl (hB rfl Has.nil)))))⟩)) ?_
      rintro ⟨m, we⟩ Z3 hz3 hm2
      have hm2 : m ≤ fr.length := hm2
      have hel := hlt m
      have hN := liftN_small fr hedl m
      have hM := byL_le a.ed (fr.getD m default).toNat) <;> (refine W_seq ?_; (refine W_rgn ?_; ((refine Ra rfl (X_lss rfl rfl (fun _ => ?_) (fun _ => ?_))) <;> (refine R_nil ?_))) <;> ((refine thenQ_nrm ?_; (refine W_seq ?_; (refine W_cond rfl (fun ht => ?_) (fun ht => ?_) <;> (first | exact absurd ht (by decide) | (refine W_skip ?_) | (refine W_exit ?_))) <;> (first | refine thenQ_ext ?_ | (refine thenQ_nrm ?_; (refine W_seq ?_; (refine W_block ?_; (refine W_seq ?_; (refine W_rgn ?_; ((refine Ra rfl (X_mv rfl ?_)) <;> (refine Ra rfl (xIa rfl rfl (by omega) (by omega) ?_)) <;> (refine Ra rfl (X_load (lE0 rfl (by omega) rfl) ?_)) <;> (refine Ra rfl (X_mv rfl ?_)) <;> (refine Ra rfl (X_mv rfl ?_)) <;> (refine R_nil ?_))) <;> ((refine thenQ_nrm ?_; (refine W_seq ?_; (refine W_rgn ?_; ((refine Ra rfl (X_mv rfl ?_)) <;> (refine Ra rfl (X_mv rfl ?_)) <;> (refine Ra rfl (xIa rfl rfl (by omega) (by omega) ?_)) <;> (refine Ra rfl (X_load (lE0 rfl (by omega) rfl) ?_); (have hk79 := hwk (fr.getD m default).toNat (by omega))) <;> (refine Ra rfl (xLen rfl ?_)) <;> (refine Ra rfl (X_mv rfl ?_)) <;> (refine R_nil ?_))) <;> ((refine thenQ_nrm ?_; (refine W_block ?_; ((
      refine wLoop (fun p : Nat × Value => match p with | (i, we) => [(81, .int .i64 (i : Nat))]) (fun p => match p with | (i, we) => [.box b12 [.int .i64 a.S, .int .i64 fr.length, w63, w66, we], .gro w63 1 (a.st.map cI), .gro w66 1 (a.en.map cI), .gro we 3 ((liftN a.ed fr m ++ ((byL a.ed (fr.getD m default).toNat).take i).map (liftE m)).map Ed.c), .box b4 [.int .i64 0, .int .i64 0, .slice none 0 0, .slice none 0 0, .slice none 0 0], .box b2 [.int .i64 a.S, .int .i64 a.L, vs, ve, vg]]) (fun p _ => match p with | (i, _) => i ≤ (byL a.ed (fr.getD m default).toNat).length) (fun p => match p with | (i, _) => (byL a.ed (fr.getD m default).toNat).length - i) (0, we) (by repeat' (first | exact trivial | exact rfl | constructor))
        (Upd.done ⟨Nat.zero_le _, hB rfl (hG rfl (hG rfl (hG (by simp) (hB rfl (hB rfl Has.nil)))))⟩) ?_
      rintro ⟨i, we⟩ Z4 hz4 hi
      have hi : i ≤ (byL a.ed (fr.getD m default).toNat).length := hi
      have htl : (liftN a.ed fr m ++ ((byL a.ed (fr.getD m default).toNat).take i).map (liftE m)).length = (liftN a.ed fr m).length + i := by rw [List.length_append, List.length_map, List.length_take]; omega) <;> (refine W_seq ?_; (refine W_rgn ?_; ((refine Ra rfl (X_lss rfl rfl (fun _ => ?_) (fun _ => ?_))) <;> (refine R_nil ?_))) <;> ((refine thenQ_nrm ?_; (refine W_seq ?_; (refine W_cond rfl (fun ht => ?_) (fun ht => ?_) <;> (first | exact absurd ht (by decide) | (refine W_skip ?_) | (refine W_exit ?_))) <;> (first | refine thenQ_ext ?_ | (refine thenQ_nrm ?_; (refine W_seq ?_; (refine W_block ?_; (refine W_seq ?_; (refine W_rgn ?_; ((refine Ra rfl (xIa rfl rfl (by omega) (by omega) ?_)) <;> (refine Ra rfl (X_load (lEA rfl (by omega)) ?_)) <;> (refine Ra rfl (X_alloc (fun b16 => ?_))) <;> (refine Rn (xSW rfl rfl rfl rfl ?_)) <;> (refine R_nil ?_))) <;> ((refine thenQ_nrm ?_; (refine W_rgn ?_; ((refine Ra rfl (X_faddr rfl ?_)) <;> (refine Ra rfl (X_faddr rfl ?_)) <;> (refine Ra rfl (X_load (lB rfl rfl) ?_)) <;> (refine Ra rfl (X_faddr rfl ?_)) <;> (refine Ra rfl (X_load (lB rfl rfl) ?_)) <;> (refine Ra rfl (X_mv rfl ?_)) <;> (refine Ra rfl (X_faddr rfl ?_)) <;> (refine Ra rfl (X_load (lB rfl rfl) ?_)) <;> (refine Ra rfl (X_buildC (pCons rfl (pCons rfl (pCons rfl Parts.nil))) rfl ?_)) <;> (refine Ra rfl (X_bsliceC (pCons rfl Parts.nil) rfl rfl rfl (fun v94 => ?_))) <;> (refine Ra rfl (xApGm (fe := Ed.c) (liftE m ((byL a.ed (fr.getD m default).toNat).getD i default)) rfl rfl rfl (by omega) (fun v95 => ?_))) <;> (refine Ra rfl (X_faddr rfl ?_)) <;> (refine Ra rfl (X_faddr rfl ?_)) <;> (refine Rn (xSB rfl rfl rfl rfl rfl ?_)) <;> (refine R_nil ?_)))))) <;> (refine blockQ_nrm ?_)) <;> ((refine thenQ_nrm ?_; (refine W_rgn ?_; ((refine Ra rfl (X_addI rfl rfl (by omega) (by omega) ?_)) <;> (refine Ra rfl (X_mv rfl ?_)) <;> (refine R_nil ?_)))))))))))) <;> (first | refine thenQ_ext ?_ | (refine thenQ_nrm ?_; (
        refine Upd.done ⟨(i + 1, _), ?_, ?_, (by repeat' (first | exact trivial | exact rfl | constructor)), (hB rfl (hG rfl (hG rfl (hG ?_ (hB rfl (hB rfl Has.nil))))))⟩
        · show (byL a.ed (fr.getD m default).toNat).length - (i + 1) < (byL a.ed (fr.getD m default).toNat).length - i
          omega
        · show i + 1 ≤ (byL a.ed (fr.getD m default).toNat).length
          omega
        · rw [take_succ_at (by omega)]; simp only [List.map_append, List.map_cons, List.map_nil, List.append_assoc])))) <;> (refine blockQ_ext ?_)))))))) <;> (refine blockQ_nrm ?_)) <;> ((refine thenQ_nrm ?_; (refine W_rgn ?_; ((refine Ra rfl (X_addI rfl rfl (by omega) (by omega) ?_)) <;> (refine Ra rfl (X_mv rfl ?_)) <;> (refine R_nil ?_)))))))))))) <;> (first | refine thenQ_ext ?_ | (refine thenQ_nrm ?_; (
        obtain rfl : i = (byL a.ed (fr.getD m default).toNat).length := by omega
        refine Upd.done ⟨(m + 1, _), ?_, ?_, (by repeat' (first | exact trivial | exact rfl | constructor)), (hB rfl (hG rfl (hG rfl (hG ?_ (hB rfl (hB rfl Has.nil))))))⟩
        · show fr.length - (m + 1) < fr.length - m
          omega
        · show m + 1 ≤ fr.length
          omega
        · rw [List.take_length]; rfl)))) <;> (refine blockQ_ext ?_))))) <;> ((refine thenQ_nrm ?_; (refine W_seq ?_; (refine W_rgn ?_; ((refine Ra rfl (X_upd ?_); (obtain rfl : m = fr.length := (by omega); have hsm : (liftN a.ed fr fr.length).length ≤ 200000 := (by omega); refine Upd.done ?_; refine xNe (L' := []) (done_ok lo hrst hren (show fines (liftN a.ed fr fr.length) from (lift_raw hA hok).fine) (by omega) (by omega) (by omega)) rfl (pB rfl (pG rfl (pG rfl (pG rfl Pick.nil)))) (fun v100 Z100 hz100 hv100 => ?_); obtain ⟨xs, xe, xg, rfl, ys, ye, yg, z1, z2, z3⟩ := hv100)) <;> (refine Rn (xSW rfl rfl rfl rfl ?_)) <;> (refine Ra rfl (X_mv rfl ?_)) <;> (refine R_nil ?_))) <;> ((refine thenQ_nrm ?_; (refine W_ret ?_))))))))))))))))))))))))))))))))))
  <;> (refine fn_ret (rA rfl rfl (Res.tmp rfl Res.nil)) ?_)
  all_goals first
    | exact Upd.nil ⟨rfl, .inl ⟨hA, rfl⟩⟩
    | exact Upd.nil ⟨rfl, .inr (.inl ⟨hA, fun ⟨r1, r2, r4⟩ => by omega, rfl⟩)⟩
    | exact Upd.nil ⟨rfl, .inr (.inl ⟨hA, fun ⟨r1, r2, r4⟩ => (hq35.1 rfl) r4, rfl⟩)⟩
    | (obtain rfl : m = fr.length := by omega
       exact Upd.nil ⟨rfl, .inr (.inr (.inl ⟨hA, hok, by omega, rfl⟩))⟩)
    | exact Upd.nil ⟨rfl, .inr (.inr (.inr ⟨hA, hok, hsm, _, rfl, xs, xe, xg, rfl, ys.le ZC.le, ye.le ZC.le, yg.le ZC.le, z1, z2, z3⟩))⟩
end Go.Proofs.Ytbjgnogcjglcoaa.Hm.V
