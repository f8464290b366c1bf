/- Of layer 27: auto.Short. -/
import Derived.Test.YtbjgnogcjglcoaaHF
import Derived.Test.YtbjgnogcjglcoaaA6
import Derived.Test.YtbjgnogcjglcoaaVH3
namespace Go.Proofs.Ytbjgnogcjglcoaa.Hm.V
open Go
set_option linter.all false
set_option maxRecDepth 100000
attribute [local irreducible] X S R D W Call Upd Rds Rck Sees Res Cel CallP fnQ
/-- What auto.Short answers. -/
def shortQ (a : Au) (c : Int) (r : Value) (Z : Vw) : Prop :=
  (¬ isAutoP a ∧ r = .tuple ⟨[noAuV, .int .i64 270]⟩) ∨ (isAutoP a ∧ (c < 0 ∨ a.L ≤ c) ∧ r = .tuple ⟨[noAuV, .int .i64 1]⟩) ∨
  (isAutoP a ∧ 0 ≤ c ∧ c < a.L ∧ ∃ v, r = .tuple ⟨[v, .int .i64 0]⟩ ∧ AuV Z v (shortAu a (shortN a c a.S.toNat)))
set_option maxHeartbeats 4000000 in
theorem ShortA_ok (lo : Nat) {Z : Vw} {v : Value} {a : Au} {c : Int} (ha : AuV Z v a) : CallP F lo 33 [v, .int .i64 c] Z fun r Z' => shortQ a c r Z' := by
  have hV := ha
  obtain ⟨vs, ve, vg, rfl, hs, he, hg, q1, q2, q3⟩ := ha
  refine FnP (fn := c33) rfl rfl rfl ?_
  (refine W_seq ?_; (refine W_rgn ?_; ((refine Ra rfl (xBox rfl (fun b2 => ?_))) <;> (refine Ra rfl (X_alloc (fun b4 => ?_))) <;> (refine Ra rfl (X_mv rfl ?_)) <;> (refine R_nil ?_))) <;> ((refine thenQ_nrm ?_; (refine W_seq ?_; (refine W_seq ?_; (refine W_rgn ?_; ((refine Ra rfl (X_load (lBA rfl rfl) ?_)) <;> (refine Ra rfl (xP (Check_ok lo (by first | assumption | exact AuV.le (by assumption) ZC.le)) rfl (fun _ Z14 hz14 hq => ?_)); (obtain ⟨cc, rfl, hc⟩ := hq; rcases hc with ⟨rfl, hA⟩ | ⟨rfl, hA⟩ <;> try (have hinE := isAuto_en hA; have hinD := isAuto_ed hA; have hS0 := hA.1; have hS1 := hA.2.1; have hstl := rising_len hA.2.2.2.2.2.1 hA.1; have hedl := hA.2.2.2.2.1))) <;> (refine Ra rfl (X_mv rfl ?_)) <;> (refine R_nil ?_))) <;> ((refine thenQ_nrm ?_; (refine W_seq ?_; (refine W_rgn ?_; ((refine Ra rfl (X_mv rfl ?_)) <;> (first | (refine Ra rfl (X_bin (v := .bool true) rfl rfl rfl ?_)) | (refine Ra rfl (X_bin (v := .bool false) rfl rfl rfl ?_))) <;> (refine R_nil ?_))) <;> ((refine thenQ_nrm ?_; (refine W_cond rfl (fun ht => ?_) (fun ht => ?_) <;> (first | exact absurd ht (by decide) | (refine W_seq ?_; (refine W_rgn ?_; ((refine Ra rfl (X_buildC Parts.nil rfl ?_)) <;> (refine Ra rfl (X_mv rfl ?_)) <;> (refine Rn (xSW rfl rfl rfl rfl ?_)) <;> (refine Ra rfl (X_mv rfl ?_)) <;> (refine R_nil ?_))) <;> ((refine thenQ_nrm ?_; (refine W_ret ?_)))) | (refine W_skip ?_))))))))) <;> (first | refine thenQ_ret ?_ | (refine thenQ_nrm ?_; (refine W_seq ?_; (refine W_seq ?_; (refine W_rgn ?_; ((refine Ra rfl (X_mv rfl ?_)) <;> (refine Ra rfl (X_lss rfl rfl (fun _ => ?_) (fun _ => ?_))) <;> (refine Ra rfl (X_mv rfl ?_)) <;> (first | (refine Rb rfl rfl (X_mv rfl ?_)) | (refine Rc rfl rfl ?_)) <;> (first | (refine Rb rfl rfl (X_faddr rfl ?_)) | (refine Rc rfl rfl ?_)) <;> (first | (refine Rb rfl rfl (X_load (lB rfl rfl) ?_)) | (refine Rc rfl rfl ?_)) <;> (first | (refine Rb rfl rfl (X_geq rfl rfl (fun _ => ?_) (fun _ => ?_))) | (refine Rc rfl rfl ?_)) <;> (first | (refine Ra rfl (X_pickT rfl rfl ?_)) | (refine Ra rfl (X_pickF rfl rfl ?_))) <;> (refine R_nil ?_))) <;> ((refine thenQ_nrm ?_; (refine W_cond rfl (fun ht => ?_) (fun ht => ?_) <;> (first | exact absurd ht (by decide) | (refine W_seq ?_; (refine W_rgn ?_; ((refine Ra rfl (X_buildC Parts.nil rfl ?_)) <;> (refine Rn (xSW rfl rfl rfl rfl ?_)) <;> (refine Ra rfl (X_mv rfl ?_)) <;> (refine R_nil ?_))) <;> ((refine thenQ_nrm ?_; (refine W_ret ?_)))) | (refine W_skip ?_)))))) <;> (first | refine thenQ_ret ?_ | (refine thenQ_nrm ?_; (refine W_seq ?_; (refine W_rgn ?_; ((refine Ra rfl (X_faddr rfl ?_)) <;> (refine Ra rfl (X_load (lB rfl rfl) ?_)) <;> (refine Ra rfl (xP (of_ok lo hinE (by assumption)) rfl (fun _ Z30 hz30 hq => ?_)); (subst hq)) <;> (refine Ra rfl (X_alloc (fun b7 => ?_))) <;> (refine Rn (xSW rfl rfl rfl rfl ?_)) <;> (refine R_nil ?_))) <;> ((refine thenQ_nrm ?_; (refine W_seq ?_; (refine W_seq ?_; (refine W_rgn ?_; ((refine Ra rfl (X_mv rfl ?_)) <;> (refine R_nil ?_))) <;> ((refine thenQ_nrm ?_; (refine W_block ?_; ((
      have hc0 : 0 ≤ c ∧ c < a.L := by omega
      refine wLoop (fun p : Bool × Nat => match p with | (more, E) => [(8, .bool more)]) (fun p => match p with | (more, E) => [.box b7 (cS E), .box b4 [.int .i64 0, .int .i64 0, .slice none 0 0, .slice none 0 0, .slice none 0 0], .box b2 [.int .i64 a.S, .int .i64 a.L, vs, ve, vg]]) (fun p _ => match p with | (more, E) => E < 2 ^ 256 ∧ soundC a c E ∧ endsC a E ∧ (more = false → closedC a c E)) (fun p => match p with | (more, E) => (if more = true then 1 else 0) + (256 - cntB 256 E)) (true, setOf a.en) (by repeat' (first | exact trivial | exact rfl | constructor))
        (Upd.done ⟨⟨setOf_lt hinE, shortN_sound a c 0, shortN_ends a c 0, fun h => (by cases h)⟩, hB rfl (hB rfl (hB rfl Has.nil))⟩) ?_
      rintro ⟨more, E0⟩ Z1 hz1 hp
      obtain ⟨hE0, hs0, he0, hc0'⟩ : E0 < 2 ^ 256 ∧ soundC a c E0 ∧ endsC a E0 ∧ (more = false → closedC a c E0) := hp
      cases more) <;> (refine W_seq ?_; (refine W_seq ?_; (refine W_rgn ?_; ((refine Ra rfl (X_mv rfl ?_)) <;> (refine R_nil ?_))) <;> ((refine thenQ_nrm ?_; (refine W_cond rfl (fun ht => ?_) (fun ht => ?_) <;> (first | exact absurd ht (by decide) | (refine W_skip ?_) | (refine W_exit ?_)))))) <;> (first | refine thenQ_ext ?_ | (refine thenQ_nrm ?_; (refine W_block ?_; (refine W_seq ?_; (refine W_rgn ?_; ((refine Ra rfl (X_mv rfl ?_)) <;> (refine R_nil ?_))) <;> ((refine thenQ_nrm ?_; (refine W_seq ?_; (refine W_rgn ?_; ((refine Ra rfl (X_faddr rfl ?_)) <;> (refine Ra rfl (X_load (lB rfl rfl) ?_)) <;> (refine Ra rfl (xLen rfl ?_)) <;> (refine Ra rfl (X_mv rfl ?_)) <;> (refine R_nil ?_))) <;> ((refine thenQ_nrm ?_; (refine W_block ?_; ((
      refine wLoop (fun p : Nat × Bool × Nat => match p with | (i, more, E) => [(35, .int .i64 (i : Nat)), (8, .bool more)]) (fun p => match p with | (i, more, E) => [.box b7 (cS E), .box b4 [.int .i64 0, .int .i64 0, .slice none 0 0, .slice none 0 0, .slice none 0 0], .box b2 [.int .i64 a.S, .int .i64 a.L, vs, ve, vg]]) (fun p _ => match p with | (i, more, E) => i ≤ a.ed.length ∧ E < 2 ^ 256 ∧ soundC a c E ∧ (∀ q, E0.testBit q = true → E.testBit q = true) ∧ (more = false → E = E0 ∧ ∀ j, j < i → (a.ed.getD j default).l = c → E0.testBit (a.ed.getD j default).t.toNat = true → E0.testBit (a.ed.getD j default).f.toNat = true) ∧ (more = true → cntB 256 E0 < cntB 256 E)) (fun p => match p with | (i, _) => a.ed.length - i) (0, false, E0) (by repeat' (first | exact trivial | exact rfl | constructor))
        (Upd.done ⟨⟨Nat.zero_le _, hE0, hs0, fun q h => h, fun _ => ⟨rfl, fun j hj => absurd hj (by omega)⟩, fun h => (by cases h)⟩, hB rfl (hB rfl (hB rfl Has.nil))⟩) ?_
      rintro ⟨i, more, E⟩ Z2 hz2 hp
      obtain ⟨hi, hE, hs1, hsub, hno, hyes⟩ : i ≤ a.ed.length ∧ E < 2 ^ 256 ∧ soundC a c E ∧ (∀ q, E0.testBit q = true → E.testBit q = true) ∧ (more = false → E = E0 ∧ ∀ j, j < i → (a.ed.getD j default).l = c → E0.testBit (a.ed.getD j default).t.toNat = true → E0.testBit (a.ed.getD j default).f.toNat = true) ∧ (more = true → cntB 256 E0 < cntB 256 E) := hp
      have hel := hinD i
      have hmem : i < a.ed.length → a.ed.getD i default ∈ a.ed := fun h => getD_mem h) <;> (refine W_seq ?_; (refine W_rgn ?_; ((refine Ra rfl (X_lss rfl rfl (fun _ => ?_) (fun _ => ?_))) <;> (refine R_nil ?_))) <;> ((refine thenQ_nrm ?_; (refine W_seq ?_; (refine W_cond rfl (fun ht => ?_) (fun ht => ?_) <;> (first | exact absurd ht (by decide) | (refine W_skip ?_) | (refine W_exit ?_))) <;> (first | refine thenQ_ext ?_ | (refine thenQ_nrm ?_; (refine W_seq ?_; (refine W_block ?_; (refine W_seq ?_; (refine W_rgn ?_; ((refine Ra rfl (xIa rfl rfl (by omega) (by omega) ?_)) <;> (refine Ra rfl (X_load (lEA rfl (by omega)) ?_)) <;> (refine Ra rfl (X_alloc (fun b10 => ?_))) <;> (refine Rn (xSW rfl rfl rfl rfl ?_)) <;> (refine R_nil ?_))) <;> ((refine thenQ_nrm ?_; (refine W_seq ?_; (refine W_rgn ?_; ((refine Ra rfl (X_faddr rfl ?_)) <;> (refine Ra rfl (X_load (lB rfl rfl) ?_)) <;> (refine Ra rfl (X_mv rfl ?_)) <;> (refine Ra rfl (X_eql rfl rfl (fun _ => ?_) (fun _ => ?_))) <;> (refine Ra rfl (X_mv rfl ?_)) <;> (first | (refine Rb rfl rfl (X_load (lBA rfl rfl) ?_)) | (refine Rc rfl rfl ?_)) <;> (first | (refine Rb rfl rfl (X_faddr rfl ?_)) | (refine Rc rfl rfl ?_)) <;> (first | (refine Rb rfl rfl (X_load (lB rfl rfl) ?_)) | (refine Rc rfl rfl ?_)) <;> (first | (refine Rb rfl rfl (xP (has_ok lo (by omega) (by omega)) rfl (fun _ Z47 hz47 hb47 => ?_)); (obtain ⟨b47, rfl, hb47⟩ := hb47; cases b47)) | (refine Rc rfl rfl ?_)) <;> (first | (refine Ra rfl (X_pickT rfl rfl ?_)) | (refine Ra rfl (X_pickF rfl rfl ?_))) <;> (refine Ra rfl (X_mv rfl ?_)) <;> (first | (refine Rb rfl rfl (X_load (lBA rfl rfl) ?_)) | (refine Rc rfl rfl ?_)) <;> (first | (refine Rb rfl rfl (X_faddr rfl ?_)) | (refine Rc rfl rfl ?_)) <;> (first | (refine Rb rfl rfl (X_load (lB rfl rfl) ?_)) | (refine Rc rfl rfl ?_)) <;> (first | (refine Rb rfl rfl (xP (has_ok lo (by omega) (by omega)) rfl (fun _ Z53 hz53 hb53 => ?_)); (obtain ⟨b53, rfl, hb53⟩ := hb53; cases b53)) | (refine Rc rfl rfl ?_)) <;> (first | (refine Rb rfl rfl (X_not rfl ?_)) | (refine Rc rfl rfl ?_)) <;> (first | (refine Ra rfl (X_pickT rfl rfl ?_)) | (refine Ra rfl (X_pickF rfl rfl ?_))) <;> (refine R_nil ?_))) <;> ((refine thenQ_nrm ?_; (refine W_cond rfl (fun ht => ?_) (fun ht => ?_) <;> (first | exact absurd ht (by decide) | (refine W_seq ?_; (refine W_rgn ?_; ((refine Ra rfl (X_faddr rfl ?_)) <;> (refine Ra rfl (X_load (lB rfl rfl) ?_)) <;> (refine Ra rfl (x1B (put_ok lo (by omega) (by omega)) rfl (fun _ Z58 o58 hz58 ho => ?_)); (subst ho)) <;> (refine R_nil ?_))) <;> ((refine thenQ_nrm ?_; (refine W_rgn ?_; ((refine Ra rfl (X_mv rfl ?_)) <;> (refine R_nil ?_)))))) | (refine W_skip ?_))))))))) <;> (refine blockQ_nrm ?_)) <;> ((refine thenQ_nrm ?_; (refine W_rgn ?_; ((refine Ra rfl (X_addI rfl rfl (by omega) (by omega) ?_)) <;> (refine Ra rfl (X_mv rfl ?_)) <;> (refine R_nil ?_)))))))))))) <;> (first | refine thenQ_ext ?_ | (refine thenQ_nrm ?_; (
        first
          | (have hsub2 : ∀ q, E.testBit q = true → (E ||| 1 <<< (a.ed.getD i default).f.toNat).testBit q = true := fun q h => by rw [Nat.testBit_or, h]; rfl
             have hcnt := cntB_lt hsub2 (q := (a.ed.getD i default).f.toNat) hb53.symm (by rw [Nat.testBit_or, Bool.or_eq_true]; exact .inr (one_bit.2 rfl)) 256 (by omega)
             have hcnt0 := cntB_mono hsub 256
             refine Upd.done ⟨(i + 1, true, E ||| 1 <<< (a.ed.getD i default).f.toNat), ?_, ⟨?_, put_lt hE (by omega), ?_, fun q h => hsub2 q (hsub q h), fun h => (by cases h), fun _ => by omega⟩, (by repeat' (first | exact trivial | exact rfl | constructor)), (hB rfl (hB rfl (hB rfl Has.nil)))⟩
             · show a.ed.length - (i + 1) < a.ed.length - i
               omega
             · show i + 1 ≤ a.ed.length
               omega
             · intro q hq
               rw [Nat.testBit_or, Bool.or_eq_true] at hq
               rcases hq with hq | hq
               · exact hs1 q hq
               · obtain rfl := one_bit.1 hq
                 exact .ed (hmem (by omega)) (by omega) (hs1 _ hb47.symm))
          | (refine Upd.done ⟨(i + 1, more, E), ?_, ⟨?_, hE, hs1, hsub, fun h => ⟨(hno h).1, fun j hj => ?_⟩, hyes⟩, (by repeat' (first | exact trivial | exact rfl | constructor)), (hB rfl (hB rfl (hB rfl Has.nil)))⟩
             · show a.ed.length - (i + 1) < a.ed.length - i
               omega
             · show i + 1 ≤ a.ed.length
               omega
             · obtain ⟨e1, e2⟩ := hno h
               subst e1
               rcases Nat.lt_or_ge j i with h9 | h9
               · exact e2 j h9
               · obtain rfl : j = i := by omega
                 intro g1 g2
                 first
                   | exact hb53.symm
                   | exact absurd (hb47.trans g2) Bool.false_ne_true
                   | (exfalso; omega)))))) <;> (refine blockQ_ext ?_)))))))) <;> (refine blockQ_nrm ?_))))) <;> (first | refine thenQ_ext ?_ | (refine thenQ_nrm ?_; (
        have hi9 : i = a.ed.length := by omega
        subst hi9
        refine Upd.done ⟨(more, E), ?_, ⟨hE, hs1, fun x hx => hsub _ (he0 x hx), fun hm => ?_⟩, (by repeat' (first | exact trivial | exact rfl | constructor)), (hB rfl (hB rfl (hB rfl Has.nil)))⟩
        · show (if more = true then 1 else 0) + (256 - cntB 256 E) < (if true = true then 1 else 0) + (256 - cntB 256 E0)
          have hle := cntB_le 256 E
          have hle0 := cntB_le 256 E0
          cases more
          · have := (hno rfl).1
            subst this
            simp
          · have := hyes rfl
            simp; omega
        · obtain ⟨e1, e2⟩ := hno hm
          subst e1
          intro x hx
          obtain ⟨j, hj, rfl⟩ := List.getElem_of_mem hx
          have := e2 j hj
          rw [getD_eq hj] at this
          exact this)))) <;> (refine blockQ_ext ?_))))) <;> ((refine thenQ_nrm ?_; (refine W_seq ?_; (refine W_drw ?_; ((refine Da rfl rfl (X_faddr rfl ?_)) <;> (refine Da rfl rfl (X_load (lB rfl rfl) ?_)) <;> (refine Da rfl rfl (X_faddr rfl ?_)) <;> (refine Da rfl rfl (X_load (lB rfl rfl) ?_)) <;> (refine Da rfl rfl (X_faddr rfl ?_)) <;> (refine Da rfl rfl (X_load (lB rfl rfl) ?_)) <;> (refine Da rfl rfl (X_faddr rfl ?_)) <;> (refine Da rfl rfl (X_load (lB rfl rfl) ?_)) <;> (refine Da rfl rfl (X_alloc (fun b11 => ?_))) <;> (refine D_consR rfl (S_do rfl (xP (Clone1_ok lo (by omega)) rfl (fun w66 Z66 hz66 hf66 => ⟨(by (refine rDo rfl rfl (lB rfl rfl) ?_); (refine rDo rfl rfl (lB rfl rfl) ?_); (refine rDo rfl rfl (lB rfl rfl) ?_); exact Rck_nil), ?_⟩)))) <;> (refine D_consR rfl (S_do rfl (xP (Clone3_ok lo (by omega)) rfl (fun w69 Z69 hz69 hf69 => ⟨(by (refine rDo rfl rfl (lB rfl rfl) ?_); (refine rDo rfl rfl (lB rfl rfl) ?_); exact Rck_nil), ?_⟩)))) <;> (refine Da rfl rfl (X_buildC (pCons rfl (pCons rfl (pCons rfl (pCons rfl Parts.nil)))) rfl ?_)) <;> (refine Dn rfl (xSW rfl rfl rfl rfl ?_)) <;> (refine D_nil ?_))) <;> ((refine thenQ_nrm ?_; (refine W_seq ?_; (refine W_seq ?_; (refine W_rgn ?_; ((refine Ra rfl (X_faddr rfl ?_)) <;> (refine Ra rfl (X_load (lB rfl rfl) ?_)) <;> (refine Ra rfl (X_mv rfl ?_)) <;> (refine R_nil ?_))) <;> ((refine thenQ_nrm ?_; (refine W_block ?_; ((
      have hcl := hc0' rfl
      refine wLoop (fun p : Nat × Value => match p with | (q, we) => [(73, .int .i64 (q : Nat))]) (fun p => match p with | (q, we) => [.box b11 [.int .i64 a.S, .int .i64 a.L, w66, we, w69], .gro we 1 ((idxT ((bitsL a.S.toNat E0).take q)).map cI), .box b7 (cS E0), .box b4 [.int .i64 0, .int .i64 0, .slice none 0 0, .slice none 0 0, .slice none 0 0], .box b2 [.int .i64 a.S, .int .i64 a.L, vs, ve, vg]]) (fun p _ => match p with | (q, _) => q ≤ a.S.toNat) (fun p => match p with | (q, _) => a.S.toNat - q) (0, .slice none 0 0) (by repeat' (first | exact trivial | exact rfl | constructor))
        (Upd.gro0 (e := 1) (by decide) (Upd.done ⟨Nat.zero_le _, hB rfl (hG (by simp [idxT]) (hB rfl (hB rfl (hB rfl Has.nil))))⟩)) ?_
      rintro ⟨q, we⟩ Z2 hz2 hq
      have hq : q ≤ a.S.toNat := hq
      have hbl := bitsL_len a.S.toNat E0
      have hil := idxT_tlen (bitsL a.S.toNat E0) q) <;> (refine W_seq ?_; (refine W_rgn ?_; ((refine Ra rfl (X_lss rfl rfl (fun _ => ?_) (fun _ => ?_))) <;> (refine R_nil ?_))) <;> ((refine thenQ_nrm ?_; (refine W_seq ?_; (refine W_cond rfl (fun ht => ?_) (fun ht => ?_) <;> (first | exact absurd ht (by decide) | (refine W_skip ?_) | (refine W_exit ?_))) <;> (first | refine thenQ_ext ?_ | (refine thenQ_nrm ?_; (refine W_seq ?_; (refine W_block ?_; (refine W_seq ?_; (refine W_rgn ?_; ((refine Ra rfl (X_mv rfl ?_)) <;> (refine Ra rfl (X_mv rfl ?_)) <;> (refine R_nil ?_))) <;> ((refine thenQ_nrm ?_; (refine W_seq ?_; (refine W_rgn ?_; ((refine Ra rfl (X_load (lBA rfl rfl) ?_)) <;> (refine Ra rfl (X_mv rfl ?_)) <;> (refine Ra rfl (xP (has_ok lo (by omega) (by omega)) rfl (fun _ Z78 hz78 hb78 => ?_)); (obtain ⟨b78, rfl, hb78⟩ := hb78; cases b78)) <;> (refine R_nil ?_))) <;> ((refine thenQ_nrm ?_; (refine W_cond rfl (fun ht => ?_) (fun ht => ?_) <;> (first | exact absurd ht (by decide) | (refine W_rgn ?_; ((refine Ra rfl (X_faddr rfl ?_)) <;> (refine Ra rfl (X_load (lB rfl rfl) ?_)) <;> (refine Ra rfl (X_mv rfl ?_)) <;> (refine Ra rfl (X_bsliceC (pCons rfl Parts.nil) rfl rfl rfl (fun v82 => ?_))) <;> (refine Ra rfl (xApGm (fe := cI) (q : Int) rfl rfl rfl (by omega) (fun v83 => ?_))) <;> (refine Ra rfl (X_faddr rfl ?_)) <;> (refine Rn (xSB rfl rfl rfl rfl rfl ?_)) <;> (refine R_nil ?_))) | (refine W_skip ?_))))))))) <;> (refine blockQ_nrm ?_)) <;> ((refine thenQ_nrm ?_; (refine W_rgn ?_; ((refine Ra rfl (X_addI rfl rfl (by omega) (by omega) ?_)) <;> (refine Ra rfl (X_mv rfl ?_)) <;> (refine R_nil ?_)))))))))))) <;> (first | refine thenQ_ext ?_ | (refine thenQ_nrm ?_; (
        refine Upd.done ⟨(q + 1, _), ?_, ?_, (by repeat' (first | exact trivial | exact rfl | constructor)), (hB rfl (hG ?_ (hB rfl (hB rfl (hB rfl Has.nil)))))⟩
        · show a.S.toNat - (q + 1) < a.S.toNat - q
          omega
        · show q + 1 ≤ a.S.toNat
          omega
        · rw [idxT_take (by omega), bitsL_at (by omega), show E0.testBit q = _ from hb78.symm]
          first | rfl | simp)))) <;> (refine blockQ_ext ?_))))) <;> ((refine thenQ_nrm ?_; (refine W_seq ?_; (refine W_rgn ?_; ((refine Ra rfl (X_load (lBA rfl rfl) ?_)) <;> (refine Rn (xSW rfl rfl rfl rfl ?_)) <;> (refine Ra rfl (X_mv rfl ?_)) <;> (refine R_nil ?_))) <;> ((refine thenQ_nrm ?_; (refine W_ret ?_)))))))))))))))))))))))))
  <;> (refine fn_ret (rA rfl rfl (Res.tmp rfl Res.nil)) ?_)
  all_goals first
    | exact Upd.nil ⟨rfl, .inl ⟨hA, rfl⟩⟩
    | exact Upd.nil ⟨rfl, .inr (.inl ⟨hA, (by omega), rfl⟩)⟩
    | (have e0 : E0 = shortN a c a.S.toNat := setC_eq hs0 he0 hcl (shortN_sound _ _ _) (shortN_ends _ _ _) (shortN_closed hA)
       have e1 : (bitsL a.S.toNat E0).take q = bitsL a.S.toNat E0 := List.take_of_length_le (by omega)
       rw [e1] at hil ⊢
       refine uG we fun Z9 hz9 f3 => Upd.nil ⟨rfl, .inr (.inr ⟨hA, by omega, by omega, _, rfl, ?_⟩)⟩
       rw [← e0]
       exact ⟨w66, we, w69, rfl, hf66.le ZC.le, f3, hf69.le ZC.le, q1, (by simp only [shortAu]; omega), q3⟩)
end Go.Proofs.Ytbjgnogcjglcoaa.Hm.V
