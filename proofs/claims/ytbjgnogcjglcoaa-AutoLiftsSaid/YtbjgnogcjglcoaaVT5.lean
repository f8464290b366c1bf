/- Of layer 27: slices.ContainsFunc; Rename. -/
import Derived.Test.YtbjgnogcjglcoaaHF
import Derived.Test.YtbjgnogcjglcoaaA6
import Derived.Test.YtbjgnogcjglcoaaVT4
namespace Go.Proofs.Ytbjgnogcjglcoaa.Hm.V
open Go
set_option linter.all false
set_option maxRecDepth 100000
attribute [local irreducible] X S R D W Call Upd Rds Rck Sees Res Cel CallP fnQ
/-- What a closure over one box tells of numbers. -/
def Tells (F : Nat → Option HFn) (lo k b : Nat) (cs : List Value) (Z : Vw) (bad : Int → Prop) : Prop := ∀ x Z', Z.le Z' → Call F lo k [.int .i64 x, .pointer (some ⟨b, 0, none⟩)] Z' [.box b cs] fun r _ O' => O' = [.box b cs] ∧ ∃ q, r = .bool q ∧ (q = true ↔ bad x)
theorem Tells.of {F : Nat → Option HFn} {lo k b : Nat} {cs : List Value} {Z : Vw} {bad : Int → Prop} (h : ∀ x Z', Call1 F lo k [.int .i64 x, .pointer (some ⟨b, 0, none⟩)] Z' (.box b cs) fun r _ o' => o' = .box b cs ∧ ∃ q, r = .bool q ∧ (q = true ↔ bad x)) : Tells F lo k b cs Z bad := fun x Z' _ => (h x Z').mono fun v Z2 O' _ hq => by
  obtain ⟨o', rfl, rfl, hq⟩ := hq
  exact ⟨rfl, hq⟩
set_option maxHeartbeats 4000000 in
theorem bad1_ok (lo : Nat) {Z : Vw} {b : Nat} {x n : Int} : Call1 F lo 87 [.int .i64 x, .pointer (some ⟨b, 0, none⟩)] Z (.box b [.int .i64 n]) fun r _ o' => o' = .box b [.int .i64 n] ∧ ∃ q, r = .bool q ∧ (q = true ↔ x < 0 ∨ n ≤ x) := by
  refine Fn1 (fn := c87) rfl rfl rfl ?_
  (refine W_seq ?_; (refine W_rgn ?_; ((refine Ra rfl (X_mv rfl ?_)) <;> (refine R_nil ?_))) <;> ((refine thenQ_nrm ?_; (refine W_seq ?_; (refine W_rgn ?_; ((refine Ra rfl (X_mv rfl ?_)) <;> (refine Ra rfl (X_lss rfl rfl (fun _ => ?_) (fun _ => ?_))) <;> (refine Ra rfl (X_mv rfl ?_)) <;> (first | (refine Rb rfl rfl (X_mv rfl ?_)) | (refine Rc rfl rfl ?_)) <;> (first | (refine Rb rfl rfl (X_load (lB rfl rfl) ?_)) | (refine Rc rfl rfl ?_)) <;> (first | (refine Rb rfl rfl (X_geq rfl rfl (fun _ => ?_) (fun _ => ?_))) | (refine Rc rfl rfl ?_)) <;> (first | (refine Ra rfl (X_pickT rfl rfl ?_)) | (refine Ra rfl (X_pickF rfl rfl ?_))) <;> (refine Ra rfl (X_mv rfl ?_)) <;> (refine R_nil ?_))) <;> ((refine thenQ_nrm ?_; (refine W_ret ?_)))))))
  <;> (refine fn1_ret (Res.tmp rfl Res.nil) (hB (b := b) rfl Has.nil) ?_)
  all_goals exact ⟨rfl, _, rfl, by simp; omega⟩
set_option maxHeartbeats 4000000 in
theorem bad2_ok (lo : Nat) {Z : Vw} {b : Nat} {x S n : Int} {v2 v3 v4 : Value} : Call1 F lo 89 [.int .i64 x, .pointer (some ⟨b, 0, none⟩)] Z (.box b [.int .i64 S, .int .i64 n, v2, v3, v4]) fun r _ o' => o' = .box b [.int .i64 S, .int .i64 n, v2, v3, v4] ∧ ∃ q, r = .bool q ∧ (q = true ↔ x < 0 ∨ n ≤ x) := by
  refine Fn1 (fn := c89) rfl rfl rfl ?_
  (refine W_seq ?_; (refine W_rgn ?_; ((refine Ra rfl (X_mv rfl ?_)) <;> (refine R_nil ?_))) <;> ((refine thenQ_nrm ?_; (refine W_seq ?_; (refine W_rgn ?_; ((refine Ra rfl (X_mv rfl ?_)) <;> (refine Ra rfl (X_lss rfl rfl (fun _ => ?_) (fun _ => ?_))) <;> (refine Ra rfl (X_mv rfl ?_)) <;> (first | (refine Rb rfl rfl (X_mv rfl ?_)) | (refine Rc rfl rfl ?_)) <;> (first | (refine Rb rfl rfl (X_faddr rfl ?_)) | (refine Rc rfl rfl ?_)) <;> (first | (refine Rb rfl rfl (X_load (lB rfl rfl) ?_)) | (refine Rc rfl rfl ?_)) <;> (first | (refine Rb rfl rfl (X_geq rfl rfl (fun _ => ?_) (fun _ => ?_))) | (refine Rc rfl rfl ?_)) <;> (first | (refine Ra rfl (X_pickT rfl rfl ?_)) | (refine Ra rfl (X_pickF rfl rfl ?_))) <;> (refine Ra rfl (X_mv rfl ?_)) <;> (refine R_nil ?_))) <;> ((refine thenQ_nrm ?_; (refine W_ret ?_)))))))
  <;> (refine fn1_ret (Res.tmp rfl Res.nil) (hB (b := b) rfl Has.nil) ?_)
  all_goals exact ⟨rfl, _, rfl, by simp; omega⟩
set_option maxHeartbeats 4000000 in
theorem IndexFunc_ok (lo : Nat) {Z : Vw} {v : Value} {l : List Int} {b k : Nat} {cs : List Value} {bad : Int → Prop} [hl : FzL Z 1 v (l.map cI)] (hlen : l.length < 9223372036854775808) (hp : Tells F lo k b cs Z bad) :
    Call F lo 113 [v, .func (.func k) ⟨[]⟩ ⟨[.pointer (some ⟨b, 0, none⟩)]⟩] Z [.box b cs] fun r _ O' => O' = [.box b cs] ∧ ∃ n : Int, r = .int .i64 n ∧ (0 ≤ n ↔ ∃ j, j < l.length ∧ bad (l.getD j default)) := by
  have hl := hl.out
  refine Fn (fn := c113) rfl rfl rfl ?_
  (refine W_seq ?_; (refine W_rgn ?_; ((refine Ra rfl (X_mv rfl ?_)) <;> (refine R_nil ?_))) <;> ((refine thenQ_nrm ?_; (refine W_seq ?_; (refine W_seq ?_; (refine W_rgn ?_; ((refine Ra rfl (X_mv rfl ?_)) <;> (refine Ra rfl (xLen rfl ?_)) <;> (refine Ra rfl (X_mv rfl ?_)) <;> (refine R_nil ?_))) <;> ((refine thenQ_nrm ?_; (refine W_block ?_; ((
      refine wLoop (fun i : Nat => [(8, .int .i64 (i : Nat))]) (fun i => [.box b cs]) (fun i Zi => i ≤ l.length ∧ ∀ j, j < i → ¬ bad (l.getD j default)) (fun i => l.length - i) 0 (by repeat' (first | exact trivial | exact rfl | constructor)) (Upd.done ⟨⟨Nat.zero_le _, fun j hj => absurd hj (by omega)⟩, (hB rfl Has.nil)⟩) ?_
      intro i Z1 hz1 hp2
      obtain ⟨hi, hno⟩ := hp2) <;> (refine W_seq ?_; (refine W_rgn ?_; ((refine Ra rfl (X_lss rfl rfl (fun _ => ?_) (fun _ => ?_))) <;> (refine R_nil ?_))) <;> ((refine thenQ_nrm ?_; (refine W_seq ?_; (refine W_cond rfl (fun ht => ?_) (fun ht => ?_) <;> (first | exact absurd ht (by decide) | (refine W_skip ?_) | (refine W_exit ?_))) <;> (first | refine thenQ_ext ?_ | (refine thenQ_nrm ?_; (refine W_seq ?_; (refine W_block ?_; (refine W_seq ?_; (refine W_rgn ?_; ((refine Ra rfl (X_mv rfl ?_)) <;> (refine Ra rfl (X_mv rfl ?_)) <;> (refine R_nil ?_))) <;> ((refine thenQ_nrm ?_; (refine W_seq ?_; (refine W_rgn ?_; ((refine Ra rfl (X_mv rfl ?_)) <;> (refine Ra rfl (X_mv rfl ?_)) <;> (refine Ra rfl (X_mv rfl ?_)) <;> (refine Ra rfl (xIa rfl rfl (by omega) (by omega) ?_)) <;> (refine Ra rfl (X_load (lE0 rfl (by omega) rfl) ?_)) <;> (refine Ra rfl (xD rfl rfl (hp (l.getD i default) _ ZC.le) (pB rfl Pick.nil) (fun r16 Z16 O16 hz16 hq O2 hO => ?_)); (obtain ⟨rfl, b16, rfl, hb16⟩ := hq; obtain rfl : O2 = [.box b cs] := hO; cases b16)) <;> (refine R_nil ?_))) <;> ((refine thenQ_nrm ?_; (refine W_cond rfl (fun ht => ?_) (fun ht => ?_) <;> (first | exact absurd ht (by decide) | (refine W_seq ?_; (refine W_rgn ?_; ((refine Ra rfl (X_mv rfl ?_)) <;> (refine Ra rfl (X_mv rfl ?_)) <;> (refine R_nil ?_))) <;> ((refine thenQ_nrm ?_; (refine W_ret ?_)))) | (refine W_skip ?_))))))))) <;> (first | refine blockQ_nrm ?_ | refine blockQ_ret ?_)) <;> (first | refine thenQ_ret ?_ | (refine thenQ_nrm ?_; (refine W_rgn ?_; ((refine Ra rfl (X_addI rfl rfl (by omega) (by omega) ?_)) <;> (refine Ra rfl (X_mv rfl ?_)) <;> (refine R_nil ?_)))))))))))) <;> (first | refine thenQ_ret ?_ | refine thenQ_ext ?_ | (refine thenQ_nrm ?_; (
        refine Upd.done ⟨i + 1, by omega, ⟨by omega, fun j hj => ?_⟩, (by repeat' (first | exact trivial | exact rfl | constructor)), (hB rfl Has.nil)⟩
        rcases Nat.lt_or_ge j i with h9 | h9
        · exact hno j h9
        · obtain rfl : j = i := by omega
          exact fun hh => absurd (hb16.2 hh) (by decide))))) <;> (first | refine blockQ_ret ?_ | refine blockQ_ext ?_))))) <;> (first | refine thenQ_ret ?_ | (refine thenQ_nrm ?_; (refine W_seq ?_; (refine W_rgn ?_; ((refine Ra rfl (X_mv rfl ?_)) <;> (refine R_nil ?_))) <;> ((refine thenQ_nrm ?_; (refine W_ret ?_))))))))))
  <;> (refine fn_ret (Res.tmp rfl Res.nil) ?_)
  · exact Upd.has (hB rfl Has.nil) ⟨rfl, (i : Int), rfl, ⟨fun _ => ⟨i, by omega, hb16.1 rfl⟩, fun _ => by omega⟩⟩
  · exact Upd.has (hB rfl Has.nil) ⟨rfl, -1, rfl, ⟨fun h => absurd h (by decide), fun ⟨j, h1, h2⟩ => absurd h2 (hno j (by omega))⟩⟩
set_option maxHeartbeats 4000000 in
theorem ContainsFunc_ok (lo : Nat) {Z : Vw} {v : Value} {l : List Int} {b k : Nat} {cs : List Value} {bad : Int → Prop} [hl : FzL Z 1 v (l.map cI)] (hlen : l.length < 9223372036854775808) (hp : Tells F lo k b cs Z bad) :
    Call F lo 88 [v, .func (.func k) ⟨[]⟩ ⟨[.pointer (some ⟨b, 0, none⟩)]⟩] Z [.box b cs] fun r _ O' => O' = [.box b cs] ∧ ∃ q, r = .bool q ∧ (q = true ↔ ∃ j, j < l.length ∧ bad (l.getD j default)) := by
  have hl := hl.out
  refine Fn (fn := c88) rfl rfl rfl ?_
  (refine W_seq ?_; (refine W_rgn ?_; ((refine Ra rfl (X_mv rfl ?_)) <;> (refine R_nil ?_))) <;> ((refine thenQ_nrm ?_; (refine W_seq ?_; (refine W_rgn ?_; ((refine Ra rfl (X_mv rfl ?_)) <;> (refine Ra rfl (X_mv rfl ?_)) <;> (refine Ra rfl (xNe (L' := [.box b cs]) (IndexFunc_ok lo hlen hp) rfl (pB rfl Pick.nil) (fun r7 Z7 hz7 hq => ?_)); (obtain ⟨n, rfl, hn⟩ := hq)) <;> (refine Ra rfl (X_geq rfl rfl (fun _ => ?_) (fun _ => ?_))) <;> (refine Ra rfl (X_mv rfl ?_)) <;> (refine R_nil ?_))) <;> ((refine thenQ_nrm ?_; (refine W_ret ?_)))))))
  <;> (refine fn_ret (Res.tmp rfl Res.nil) ?_)
  · exact Upd.has (hB rfl Has.nil) ⟨rfl, true, rfl, ⟨fun _ => hn.1 (by omega), fun _ => rfl⟩⟩
  · exact Upd.has (hB rfl Has.nil) ⟨rfl, false, rfl, ⟨fun h => absurd h (by decide), fun h => absurd (hn.2 h) (by omega)⟩⟩
def renE (to : List Int) (x : Ed) : Ed := ⟨x.f, to.getD x.l.toNat default, x.t⟩
def renAu (a : Au) (L : Int) (to : List Int) : Au := ⟨a.S, L, a.st, a.en, a.ed.map (renE to)⟩
def renOk (a : Au) (L : Int) (to : List Int) : Prop := 1 ≤ L ∧ L ≤ 1024 ∧ (to.length : Int) = a.L ∧ lettersP L to
theorem ren_raw {a : Au} {L : Int} {to : List Int} (h : isAutoP a) (hr : renOk a L to) : rawAu (renAu a L to) := by
  obtain ⟨r1, r2, r3, r4⟩ := hr
  refine ⟨h.1, h.2.1, r1, r2, h.2.2.2.2.2.1, h.2.2.2.2.2.2.1, fun x hx => ?_⟩
  obtain ⟨y, hy, rfl⟩ := List.mem_map.1 hx
  obtain ⟨h1, h2, h3, h4, h5, h6⟩ := edsIn.of h y hy
  obtain ⟨q1, q2⟩ := r4 y.l.toNat (by omega)
  exact ⟨h1, h2, h3, h4, q1, q2⟩
theorem not_letters {L : Int} {l : List Int} : (∃ j, j < l.length ∧ (l.getD j default < 0 ∨ L ≤ l.getD j default)) ↔ ¬ lettersP L l := by
  constructor
  · rintro ⟨j, h1, h2⟩ h
    have := h j h1
    omega
  · intro h
    apply Classical.byContradiction
    intro hn
    apply h
    intro i hi
    constructor
    · apply Classical.byContradiction; intro hc; exact hn ⟨i, hi, .inl (by omega)⟩
    · apply Classical.byContradiction; intro hc; exact hn ⟨i, hi, .inr (by omega)⟩
def renQ (a : Au) (L : Int) (to : List Int) (r : Value) (Z : Vw) : Prop := (¬ isAutoP a ∧ r = .tuple ⟨[noAuV, .int .i64 270]⟩) ∨ (isAutoP a ∧ ¬ renOk a L to ∧ r = .tuple ⟨[noAuV, .int .i64 1]⟩) ∨ (isAutoP a ∧ renOk a L to ∧ ∃ v, r = .tuple ⟨[v, .int .i64 0]⟩ ∧ AuV Z v (doneAu (renAu a L to)))
set_option maxHeartbeats 4000000 in
theorem RenameA_ok (lo : Nat) {Z : Vw} {v vt : Value} {a : Au} {L : Int} {to : List Int} [ht : IntsL Z vt to] (ha : AuV Z v a) (hml : to.length < 9223372036854775808) : CallP F lo 43 [v, .int .i64 L, vt] Z fun r Z' => renQ a L to r Z' := by
  have ht := ht.out
  have hV := ha
  obtain ⟨vs, ve, vg, rfl, hs, he, hg, q1, q2, q3⟩ := ha
  refine FnP (fn := c43) rfl rfl rfl ?_
  (refine W_seq ?_; (refine W_rgn ?_; ((refine Ra rfl (xBox rfl (fun b3 => ?_))) <;> (refine Ra rfl (xBox rfl (fun b4 => ?_))) <;> (refine Ra rfl (X_alloc (fun b6 => ?_))) <;> (refine Ra rfl (X_mv rfl ?_)) <;> (refine R_nil ?_))) <;> ((refine thenQ_nrm ?_; (refine W_seq ?_; (refine W_seq ?_; (refine W_rgn ?_; ((refine Ra rfl (X_load (lBA rfl rfl) ?_)) <;> (refine Ra rfl (xP (Check_ok lo (by first | assumption | exact AuV.le (by assumption) ZC.le)) rfl (fun _ Z14 hz14 hq => ?_)); (obtain ⟨cc, rfl, hc⟩ := hq; rcases hc with ⟨rfl, hA⟩ | ⟨rfl, hA⟩ <;> try (have hS0 := hA.1; have hS1 := hA.2.1; have hL0 := hA.2.2.1; have hL1 := hA.2.2.2.1; have hedl := hA.2.2.2.2.1; have hrst := hA.2.2.2.2.2.1; have hren := hA.2.2.2.2.2.2.1; have hstl := rising_len hrst hS0; have henl := rising_len hren hS0; have hedi := edsIn.of hA))) <;> (refine Ra rfl (X_mv rfl ?_)) <;> (refine R_nil ?_))) <;> ((refine thenQ_nrm ?_; (refine W_seq ?_; (refine W_rgn ?_; ((refine Ra rfl (X_mv rfl ?_)) <;> (first | (refine Ra rfl (X_bin (v := .bool true) rfl rfl rfl ?_)) | (refine Ra rfl (X_bin (v := .bool false) rfl rfl rfl ?_))) <;> (refine R_nil ?_))) <;> ((refine thenQ_nrm ?_; (refine W_cond rfl (fun ht => ?_) (fun ht => ?_) <;> (first | exact absurd ht (by decide) | (refine W_seq ?_; (refine W_rgn ?_; ((refine Ra rfl (X_buildC Parts.nil rfl ?_)) <;> (refine Ra rfl (X_mv rfl ?_)) <;> (refine Rn (xSW rfl rfl rfl rfl ?_)) <;> (refine Ra rfl (X_mv rfl ?_)) <;> (refine R_nil ?_))) <;> ((refine thenQ_nrm ?_; (refine W_ret ?_)))) | (refine W_skip ?_))))))))) <;> (first | refine thenQ_ret ?_ | (refine thenQ_nrm ?_; (refine W_seq ?_; (refine W_rgn ?_; ((refine Ra rfl (X_mkfunc rfl rfl ?_)) <;> (refine Ra rfl (X_mv rfl ?_)) <;> (refine R_nil ?_))) <;> ((refine thenQ_nrm ?_; (refine W_seq ?_; (refine W_seq ?_; (refine W_rgn ?_; ((refine Ra rfl (X_load (lB rfl rfl) ?_)) <;> (refine Ra rfl (X_lss rfl rfl (fun _ => ?_) (fun _ => ?_))) <;> (refine Ra rfl (X_mv rfl ?_)) <;> (first | (refine Rb rfl rfl (X_load (lB rfl rfl) ?_)) | (refine Rc rfl rfl ?_)) <;> (first | (refine Rb rfl rfl (X_gtr rfl rfl (fun _ => ?_) (fun _ => ?_))) | (refine Rc rfl rfl ?_)) <;> (first | (refine Ra rfl (X_pickT rfl rfl ?_)) | (refine Ra rfl (X_pickF rfl rfl ?_))) <;> (refine Ra rfl (X_mv rfl ?_)) <;> (first | (refine Rb rfl rfl (X_mv rfl ?_)) | (refine Rc rfl rfl ?_)) <;> (first | (refine Rb rfl rfl (xLen rfl ?_)) | (refine Rc rfl rfl ?_)) <;> (first | (refine Rb rfl rfl (X_faddr rfl ?_)) | (refine Rc rfl rfl ?_)) <;> (first | (refine Rb rfl rfl (X_load (lB rfl rfl) ?_)) | (refine Rc rfl rfl ?_)) <;> (first | (refine Rb rfl rfl (X_neq rfl rfl (fun _ => ?_) (fun _ => ?_))) | (refine Rc rfl rfl ?_)) <;> (first | (refine Ra rfl (X_pickT rfl rfl ?_)) | (refine Ra rfl (X_pickF rfl rfl ?_))) <;> (refine Ra rfl (X_mv rfl ?_)) <;> (first | (refine Rb rfl rfl (X_mv rfl ?_)) | (refine Rc rfl rfl ?_)) <;> (first | (refine Rb rfl rfl (X_mv rfl ?_)) | (refine Rc rfl rfl ?_)) <;> (first | (refine Rb rfl rfl (xNe (L' := [.box b4 [.int .i64 L]]) (ContainsFunc_ok lo hml (.of fun x Z' => bad1_ok lo)) rfl (pB rfl Pick.nil) (fun r36 Z36 hz36 hq => ?_)); (obtain ⟨q36, rfl, hq36⟩ := hq; rw [not_letters] at hq36; cases q36)) | (refine Rc rfl rfl ?_)) <;> (first | (refine Ra rfl (X_pickT rfl rfl ?_)) | (refine Ra rfl (X_pickF rfl rfl ?_))) <;> (refine R_nil ?_))) <;> ((refine thenQ_nrm ?_; (refine W_cond rfl (fun ht => ?_) (fun ht => ?_) <;> (first | exact absurd ht (by decide) | (refine W_seq ?_; (refine W_rgn ?_; ((refine Ra rfl (X_buildC Parts.nil rfl ?_)) <;> (refine Rn (xSW rfl rfl rfl rfl ?_)) <;> (refine Ra rfl (X_mv rfl ?_)) <;> (refine R_nil ?_))) <;> ((refine thenQ_nrm ?_; (refine W_ret ?_)))) | (refine W_skip ?_)))))) <;> (first | refine thenQ_ret ?_ | (refine thenQ_nrm ?_; (refine W_seq ?_; (refine W_drw ?_; ((refine Da rfl rfl (X_faddr rfl ?_)) <;> (refine Da rfl rfl (X_load (lB rfl rfl) ?_)) <;> (refine Da rfl rfl (X_load (lB rfl rfl) ?_)) <;> (refine Da rfl rfl (X_faddr rfl ?_)) <;> (refine Da rfl rfl (X_load (lB rfl rfl) ?_)) <;> (refine Da rfl rfl (X_faddr rfl ?_)) <;> (refine Da rfl rfl (X_load (lB rfl rfl) ?_)) <;> (refine Da rfl rfl (X_alloc (fun b10 => ?_))) <;> (refine D_consR rfl (S_do rfl (xCg (CloneG1_ok lo (by omega)) rfl (fun w44 Z44 hz44 => ⟨(by (refine rDo rfl rfl (lB rfl rfl) ?_); (refine rDo rfl rfl (lB rfl rfl) ?_); (refine rDo rfl rfl (lB rfl rfl) ?_); exact Rck_nil), ?_⟩)))) <;> (refine D_consR rfl (S_do rfl (xCg (CloneG1_ok lo (by omega)) rfl (fun w47 Z47 hz47 => ⟨(by (refine rDo rfl rfl (lB rfl rfl) ?_); (refine rDo rfl rfl (lB rfl rfl) ?_); exact Rck_nil), ?_⟩)))) <;> (refine Da rfl rfl (X_buildC (pCons rfl (pCons rfl (pCons rfl (pCons rfl Parts.nil)))) rfl ?_)) <;> (refine Da rfl rfl (X_buildC (pCons rfl Parts.nil) rfl ?_)) <;> (refine Dn rfl (xSW rfl rfl rfl rfl ?_)) <;> (refine D_nil ?_))) <;> ((refine thenQ_nrm ?_; (refine W_seq ?_; (refine W_seq ?_; (refine W_rgn ?_; ((refine Ra rfl (X_faddr rfl ?_)) <;> (refine Ra rfl (X_load (lB rfl rfl) ?_)) <;> (refine Ra rfl (xLen rfl ?_)) <;> (refine Ra rfl (X_mv rfl ?_)) <;> (refine R_nil ?_))) <;> ((refine thenQ_nrm ?_; (refine W_block ?_; ((
      have hlt : lettersP L to := Classical.byContradiction fun hh => absurd (hq36.2 hh) (by decide)
      refine wLoop (fun p : Nat × Value => match p with | (i, we) => [(53, .int .i64 (i : Nat))]) (fun p => match p with | (i, we) => [.box b10 [.int .i64 a.S, .int .i64 L, w44, w47, we], .gro w44 1 (a.st.map cI), .gro w47 1 (a.en.map cI), .gro we 3 (((a.ed.take i).map (renE to)).map Ed.c), .box b6 [.int .i64 0, .int .i64 0, .slice none 0 0, .slice none 0 0, .slice none 0 0], .box b4 [.int .i64 L], .box b3 [.int .i64 a.S, .int .i64 a.L, vs, ve, vg]]) (fun p _ => match p with | (i, _) => i ≤ a.ed.length) (fun p => match p with | (i, _) => a.ed.length - i) (0, .slice none 0 0) (by repeat' (first | exact trivial | exact rfl | constructor))
        (Upd.gro0 (e := 3) (by decide) (Upd.done ⟨Nat.zero_le _, hB rfl (hG rfl (hG rfl (hG (by simp) (hB rfl (hB rfl (hB rfl Has.nil))))))⟩)) ?_
      rintro ⟨i, we⟩ Z2 hz2 hi
      have hi : i ≤ a.ed.length := hi
      have htl : ((a.ed.take i).map (renE to)).length = i := by rw [List.length_map, List.length_take]; omega
      have hel := fun h : i < a.ed.length => hedi _ (getD_mem h)) <;> (refine W_seq ?_; (refine W_rgn ?_; ((refine Ra rfl (X_lss rfl rfl (fun _ => ?_) (fun _ => ?_))) <;> (refine R_nil ?_))) <;> ((refine thenQ_nrm ?_; (refine W_seq ?_; (refine W_cond rfl (fun ht => ?_) (fun ht => ?_) <;> (first | exact absurd ht (by decide) | (refine W_skip ?_) | (refine W_exit ?_))) <;> (first | refine thenQ_ext ?_ | (refine thenQ_nrm ?_; (refine W_seq ?_; (refine W_block ?_; (refine W_seq ?_; (refine W_rgn ?_; ((refine Ra rfl (xIa rfl rfl (by omega) (by omega) ?_)) <;> (refine Ra rfl (X_load (lEA rfl (by omega)) ?_)) <;> (refine Ra rfl (X_alloc (fun b12 => ?_))) <;> (refine Rn (xSW rfl rfl rfl rfl ?_)) <;> (refine R_nil ?_))) <;> ((refine thenQ_nrm ?_; (refine W_seq ?_; (refine W_rgn ?_; ((refine Ra rfl (X_mv rfl ?_)) <;> (refine Ra rfl (X_faddr rfl ?_)) <;> (refine Ra rfl (X_load (lB rfl rfl) ?_)) <;> (refine Ra rfl (xIa rfl rfl (by omega) (by omega) ?_)) <;> (refine Ra rfl (X_load (lE0 rfl (by omega) rfl) ?_)) <;> (refine Ra rfl (X_faddr rfl ?_)) <;> (refine Rn (xSB rfl rfl rfl rfl rfl ?_)) <;> (refine R_nil ?_))) <;> ((refine thenQ_nrm ?_; (refine W_rgn ?_; ((refine Ra rfl (X_faddr rfl ?_)) <;> (refine Ra rfl (X_faddr rfl ?_)) <;> (refine Ra rfl (X_load (lB rfl rfl) ?_)) <;> (refine Ra rfl (X_load (lBA rfl rfl) ?_)) <;> (refine Ra rfl (X_bsliceC (pCons rfl Parts.nil) rfl rfl rfl (fun v67 => ?_))) <;> (refine Ra rfl (xApGm (fe := Ed.c) (renE to (a.ed.getD i default)) rfl rfl rfl (by omega) (fun v68 => ?_))) <;> (refine Ra rfl (X_faddr rfl ?_)) <;> (refine Ra rfl (X_faddr rfl ?_)) <;> (refine Rn (xSB rfl rfl rfl rfl rfl ?_)) <;> (refine R_nil ?_))))))))) <;> (refine blockQ_nrm ?_)) <;> ((refine thenQ_nrm ?_; (refine W_rgn ?_; ((refine Ra rfl (X_addI rfl rfl (by omega) (by omega) ?_)) <;> (refine Ra rfl (X_mv rfl ?_)) <;> (refine R_nil ?_)))))))))))) <;> (first | refine thenQ_ext ?_ | (refine thenQ_nrm ?_; (
        refine Upd.done ⟨(i + 1, _), ?_, ?_, (by repeat' (first | exact trivial | exact rfl | constructor)), (hB rfl (hG rfl (hG rfl (hG ?_ (hB rfl (hB rfl (hB rfl Has.nil)))))))⟩
        · show a.ed.length - (i + 1) < a.ed.length - i
          omega
        · show i + 1 ≤ a.ed.length
          omega
        · rw [take_succ_at (by omega)]; simp only [List.map_append, List.map_cons, List.map_nil])))) <;> (refine blockQ_ext ?_))))) <;> ((refine thenQ_nrm ?_; (refine W_seq ?_; (refine W_rgn ?_; ((refine Ra rfl (X_upd ?_); (obtain rfl : i = a.ed.length := (by omega); have hok : renOk a L to := ⟨by omega, by omega, by omega, Classical.byContradiction fun hh => absurd (hq36.2 hh) (by decide)⟩; refine Upd.done ?_; refine xNe (L' := []) (done_ok lo hrst hren (show fines (a.ed.map (renE to)) from (ren_raw hA hok).fine) (by omega) (by omega) (by simp only [List.length_map]; omega)) rfl (pB rfl (pG rfl (pG rfl (pG (by rw [List.take_length]) Pick.nil)))) (fun v72 Z72 hz72 hv72 => ?_); obtain ⟨xs, xe, xg, rfl, ys, ye, yg, z1, z2, z3⟩ := hv72)) <;> (refine Rn (xSW rfl rfl rfl rfl ?_)) <;> (refine Ra rfl (X_mv rfl ?_)) <;> (refine R_nil ?_))) <;> ((refine thenQ_nrm ?_; (refine W_ret ?_))))))))))))))))))))))
  <;> (refine fn_ret (rA rfl rfl (Res.tmp rfl Res.nil)) ?_)
  all_goals first
    | exact Upd.nil ⟨rfl, .inl ⟨hA, rfl⟩⟩
    | exact Upd.nil ⟨rfl, .inr (.inl ⟨hA, fun ⟨r1, r2, r3, r4⟩ => by omega, rfl⟩)⟩
    | exact Upd.nil ⟨rfl, .inr (.inl ⟨hA, fun ⟨r1, r2, r3, r4⟩ => (hq36.1 rfl) r4, rfl⟩)⟩
    | exact Upd.nil ⟨rfl, .inr (.inr ⟨hA, hok, _, rfl, xs, xe, xg, rfl, ys.le ZC.le, ye.le ZC.le, yg.le ZC.le, z1, z2, z3⟩)⟩
set_option maxHeartbeats 4000000 in
theorem RenameR_ok (lo : Nat) {Z : Vw} {v vt : Value} {a : Au} {L : Int} {to : List Int} [ht : IntsL Z vt to] (ha : AuV Z v a) (hA : isAutoP a) (hok : renOk a L to) : CallP F lo 44 [v, .int .i64 L, vt] Z fun r Z' => AuV Z' r (renAu a L to) := by
  have ht := ht.out
  obtain ⟨r1, r2, r3, r4⟩ := hok
  have hS0 := hA.1
  have hS1 := hA.2.1
  have hL0 := hA.2.2.1
  have hL1 := hA.2.2.2.1
  have hedl := hA.2.2.2.2.1
  have hrst := hA.2.2.2.2.2.1
  have hren := hA.2.2.2.2.2.2.1
  have hstl := rising_len hrst hS0
  have henl := rising_len hren hS0
  have hedi := edsIn.of hA
  have hV := ha
  obtain ⟨vs, ve, vg, rfl, hs, he, hg, q1, q2, q3⟩ := ha
  refine FnP (fn := c44) rfl rfl rfl ?_
  (refine W_seq ?_; (refine W_rgn ?_; ((refine Ra rfl (xBox rfl (fun b3 => ?_))) <;> (refine Ra rfl (X_alloc (fun b6 => ?_))) <;> (refine R_nil ?_))) <;> ((refine thenQ_nrm ?_; (refine W_seq ?_; (refine W_rgn ?_; ((refine Ra rfl (X_faddr rfl ?_)) <;> (refine Ra rfl (X_load (lB rfl rfl) ?_)) <;> (refine Ra rfl (X_mv rfl ?_)) <;> (refine Ra rfl (X_faddr rfl ?_)) <;> (refine Ra rfl (X_load (lB rfl rfl) ?_)) <;> (refine Ra rfl (X_faddr rfl ?_)) <;> (refine Ra rfl (X_load (lB rfl rfl) ?_)) <;> (refine Ra rfl (X_buildC (pCons rfl (pCons rfl (pCons rfl (pCons rfl Parts.nil)))) rfl ?_)) <;> (refine Ra rfl (X_alloc (fun b7 => ?_))) <;> (refine Rn (xSW rfl rfl rfl rfl ?_)) <;> (refine R_nil ?_))) <;> ((refine thenQ_nrm ?_; (refine W_seq ?_; (refine W_seq ?_; (refine W_rgn ?_; ((refine Ra rfl (X_mv rfl ?_)) <;> (refine R_nil ?_))) <;> ((refine thenQ_nrm ?_; (refine W_block ?_; ((
      refine wLoop (fun p : Nat × Value => match p with | (i, we) => [(8, .int .i64 (i : Nat))]) (fun p => match p with | (i, we) => [.box b7 [.int .i64 a.S, .int .i64 L, vs, ve, we], .gro we 3 (((a.ed.take i).map (renE to)).map Ed.c), .box b6 [.int .i64 0, .int .i64 0, .slice none 0 0, .slice none 0 0, .slice none 0 0], .box b3 [.int .i64 a.S, .int .i64 a.L, vs, ve, vg]]) (fun p _ => match p with | (i, _) => i ≤ a.ed.length) (fun p => match p with | (i, _) => a.ed.length - i) (0, .slice none 0 0) (by repeat' (first | exact trivial | exact rfl | constructor))
        (Upd.gro0 (e := 3) (by decide) (Upd.done ⟨Nat.zero_le _, hB rfl (hG (by simp) (hB rfl (hB rfl Has.nil)))⟩)) ?_
      rintro ⟨i, we⟩ Z2 hz2 hi
      have hi : i ≤ a.ed.length := hi
      have htl : ((a.ed.take i).map (renE to)).length = i := by rw [List.length_map, List.length_take]; omega
      have hel := fun h : i < a.ed.length => hedi _ (getD_mem h)) <;> (refine W_seq ?_; (refine W_seq ?_; (refine W_rgn ?_; ((refine Ra rfl (X_mv rfl ?_)) <;> (refine Ra rfl (X_faddr rfl ?_)) <;> (refine Ra rfl (X_load (lB rfl rfl) ?_)) <;> (refine Ra rfl (xLen rfl ?_)) <;> (refine Ra rfl (X_lss rfl rfl (fun _ => ?_) (fun _ => ?_))) <;> (refine R_nil ?_))) <;> ((refine thenQ_nrm ?_; (refine W_cond rfl (fun ht => ?_) (fun ht => ?_) <;> (first | exact absurd ht (by decide) | (refine W_skip ?_) | (refine W_exit ?_)))))) <;> (first | refine thenQ_ext ?_ | (refine thenQ_nrm ?_; (refine W_seq ?_; (refine W_block ?_; (refine W_seq ?_; (refine W_rgn ?_; ((refine Ra rfl (X_faddr rfl ?_)) <;> (refine Ra rfl (X_load (lB rfl rfl) ?_)) <;> (refine Ra rfl (X_mv rfl ?_)) <;> (refine Ra rfl (xIa rfl rfl (by omega) (by omega) ?_)) <;> (refine Ra rfl (X_load (lEA rfl (by omega)) ?_)) <;> (refine Ra rfl (X_alloc (fun b9 => ?_))) <;> (refine Rn (xSW rfl rfl rfl rfl ?_)) <;> (refine R_nil ?_))) <;> ((refine thenQ_nrm ?_; (refine W_seq ?_; (refine W_rgn ?_; ((refine Ra rfl (X_mv rfl ?_)) <;> (refine Ra rfl (X_faddr rfl ?_)) <;> (refine Ra rfl (X_load (lB rfl rfl) ?_)) <;> (refine Ra rfl (xIa rfl rfl (by omega) (by omega) ?_)) <;> (refine Ra rfl (X_load (lE0 rfl (by omega) rfl) ?_)) <;> (refine Ra rfl (X_faddr rfl ?_)) <;> (refine Rn (xSB rfl rfl rfl rfl rfl ?_)) <;> (refine R_nil ?_))) <;> ((refine thenQ_nrm ?_; (refine W_rgn ?_; ((refine Ra rfl (X_faddr rfl ?_)) <;> (refine Ra rfl (X_load (lB rfl rfl) ?_)) <;> (refine Ra rfl (X_load (lBA rfl rfl) ?_)) <;> (refine Ra rfl (X_bsliceC (pCons rfl Parts.nil) rfl rfl rfl (fun v39 => ?_))) <;> (refine Ra rfl (xApGm (fe := Ed.c) (renE to (a.ed.getD i default)) rfl rfl rfl (by omega) (fun v40 => ?_))) <;> (refine Ra rfl (X_faddr rfl ?_)) <;> (refine Rn (xSB rfl rfl rfl rfl rfl ?_)) <;> (refine R_nil ?_))))))))) <;> (refine blockQ_nrm ?_)) <;> ((refine thenQ_nrm ?_; (refine W_rgn ?_; ((refine Ra rfl (X_mv rfl ?_)) <;> (refine Ra rfl (X_addI rfl rfl (by omega) (by omega) ?_)) <;> (refine Ra rfl (X_mv rfl ?_)) <;> (refine R_nil ?_))))))))) <;> (first | refine thenQ_ext ?_ | (refine thenQ_nrm ?_; (
        refine Upd.done ⟨(i + 1, _), ?_, ?_, (by repeat' (first | exact trivial | exact rfl | constructor)), (hB rfl (hG ?_ (hB rfl (hB rfl Has.nil))))⟩
        · show a.ed.length - (i + 1) < a.ed.length - i
          omega
        · show i + 1 ≤ a.ed.length
          omega
        · rw [take_succ_at (by omega)]; simp only [List.map_append, List.map_cons, List.map_nil])))) <;> (refine blockQ_ext ?_))))) <;> ((refine thenQ_nrm ?_; (refine W_seq ?_; (refine W_rgn ?_; ((refine Ra rfl (X_load (lBA rfl rfl) ?_)) <;> (refine Rn (xSW rfl rfl rfl rfl ?_)) <;> (refine R_nil ?_))) <;> ((refine thenQ_nrm ?_; (refine W_ret ?_)))))))))))))
  <;> (refine fn_ret (rA rfl rfl Res.nil) ?_)
  obtain rfl : i = a.ed.length := by omega
  rw [List.take_length]
  exact uG we fun Z9 hz9 f3 => Upd.nil ⟨rfl, vs, ve, we, rfl, hs.le ZC.le, he.le ZC.le, f3, q1, q2, (by simp only [renAu, List.length_map]; exact q3)⟩
end Go.Proofs.Ytbjgnogcjglcoaa.Hm.V
