import Derived.Test.YtbjgnogcjglcoaaHF
import Derived.Test.YtbjgnogcjglcoaaA6
import Derived.Test.YtbjgnogcjglcoaaVN1
import Derived.Test.YtbjgnogcjglcoaaVLforms
namespace Go.Proofs.Ytbjgnogcjglcoaa.Hm.V
open Go
set_option linter.all false
set_option maxRecDepth 100000
attribute [local irreducible] X S R D W Call Upd Rds Rck Sees Res Cel CallP fnQ
set_option maxHeartbeats 4000000 in
theorem Agrees7_ok (lo : Nat) {Z : Vw} {vl : Value} {way : Int} {rs : List AuR} (h2 : 2 ≤ rs.length) (h3 : rs.length ≤ 3) (hrs : ∀ r ∈ rs, AuRZ Z r) (hag : Agr rs way) : Call1 F lo 71 [vl, .int .i64 way] Z (.gro vl 5 (rs.map AuR.c)) fun r _ o' => o' = .gro vl 5 (rs.map AuR.c) ∧ r = .bool true := by
  refine Fn1 (fn := c71) rfl rfl rfl ?_
  (refine W_seq ?_; (refine W_rgn ?_; ((refine Ra rfl (X_mv rfl ?_)) <;> (refine R_nil ?_))) <;> ((refine thenQ_nrm ?_; (refine W_seq ?_; (refine W_rgn ?_; ((refine Ra rfl (X_mv rfl ?_)) <;> (refine Ra rfl (X_mv rfl ?_)) <;> (refine Ra rfl (x1Gs (Agrees_ok lo h2 h3 hrs hag) rfl (fun _ Z7 hz7 ho => ?_)); (subst ho)) <;> (refine Ra rfl (X_mv rfl ?_)) <;> (refine R_nil ?_))) <;> ((refine thenQ_nrm ?_; (refine W_ret ?_)))))))
  <;> (refine fn1_ret (Res.tmp rfl Res.nil) (hG (v := vl) rfl Has.nil) ?_)
  all_goals exact ⟨rfl, rfl⟩
set_option maxHeartbeats 4000000 in
theorem right_ok (lo : Nat) {Z : Vw} {vl : Value} {way : Int} {rs : List AuR} {rx : AuR} (hl : Fz Z 5 vl (rs.map AuR.c)) (h1 : 1 ≤ rs.length) (h2 : rs.length ≤ 2) (hrs : ∀ r ∈ rs, AuRZ Z r) (hx : AuRZ Z rx) (hxA : isAutoP rx.a) (hag : Agr (rs ++ [rx]) way) : CallP F lo 32 [.agg ⟨rx.c⟩, .int .i64 rx.a.L, vl, .int .i64 way] Z fun r _ => r = .bool true := by
  have hall : ∀ r ∈ rs ++ [rx], AuRZ Z r := fun r hr => by
    rcases List.mem_append.1 hr with hr | hr
    · exact hrs r hr
    · rw [List.mem_singleton.1 hr]; exact hx
  have hA := hxA
  have hV : AuV Z (.agg ⟨rx.c⟩) rx.a := ⟨_, _, _, rfl, hx.s, hx.e, hx.g, hx.q1, hx.q2, hx.q3⟩
  obtain ⟨xa, xs, xe, xg⟩ := rx
  obtain ⟨is1, ie1, ig1, iq1, iq2, iq3, iA2⟩ := hx
  have iA := hxA
  simp only [AuR.c] at hV ⊢
  refine FnP (fn := c32) rfl rfl rfl ?_
  (refine W_seq ?_; (refine W_rgn ?_; ((refine Ra rfl (xBox rfl (fun b4 => ?_))) <;> (refine Ra rfl (X_mv rfl ?_)) <;> (refine R_nil ?_))) <;> ((refine thenQ_nrm ?_; (refine W_seq ?_; (refine W_drw ?_; ((refine Da rfl rfl (X_load (lBA rfl rfl) ?_)) <;> (refine Da rfl rfl (xP (Is_ok lo (by first | assumption | exact AuV.le (by assumption) ZC.le)) rfl (fun _ Z10 hz10 hq10 => ?_)); (obtain ⟨b10, rfl, hb10⟩ := hq10; (cases b10 <;> first | exact absurd (hb10.2 (by assumption)) Bool.false_ne_true | exact absurd (hb10.1 rfl) (by assumption) | skip))) <;> (refine Da rfl rfl (X_mv rfl ?_)) <;> (refine Db rfl rfl rfl (X_faddr rfl ?_)) <;> (refine Db rfl rfl rfl (X_load (lB rfl rfl) ?_)) <;> (refine Db rfl rfl rfl (X_mv rfl ?_)) <;> (refine Db rfl rfl rfl (X_eql rfl rfl (fun _ => ?_) (fun _ => ?_))) <;> (refine Da rfl rfl (X_pickT rfl rfl ?_)) <;> (refine Da rfl rfl (X_mv rfl ?_)) <;> (first | (refine Db rfl rfl rfl (X_bsliceC Parts.nil rfl rfl rfl (fun v18 => ?_))) | (refine Dc rfl rfl rfl ?_)) <;> (first | (refine Db rfl rfl rfl (X_mv rfl ?_)) | (refine Dc rfl rfl rfl ?_)) <;> (first | (refine Db rfl rfl rfl (X_load (lBA rfl rfl) ?_)) | (refine Dc rfl rfl rfl ?_)) <;> (first | (refine Db rfl rfl rfl (X_bsliceC (pCons rfl Parts.nil) rfl rfl rfl (fun v22 => ?_))) | (refine Dc rfl rfl rfl ?_)) <;> (first | (refine Db rfl rfl rfl (X_mv rfl ?_)) | (refine Dc rfl rfl rfl ?_)) <;> (first | (refine D_consR rfl (S_if rfl rfl (xApA (xs := []) (c := 0) rfl rfl rfl (by simp only [List.length_map, List.length_nil]; omega) (by simp only [List.length_map, List.length_nil]; omega) (fun v20 => ⟨(by (first | refine rIf rfl rfl rfl (lBA rfl rfl) ?_ | refine Rck_skip rfl rfl rfl ?_); exact Rck_nil), ?_⟩)))) | (refine D_consR rfl (S_no rfl rfl ⟨(by (first | refine rIf rfl rfl rfl (lBA rfl rfl) ?_ | refine Rck_skip rfl rfl rfl ?_); exact Rck_nil), ?_⟩))) <;> (first | (refine Db rfl rfl rfl (xApGm (⟨xa, xs, xe, xg⟩ : AuR) rfl rfl rfl (by omega) (fun v23 => ?_))) | (refine Dc rfl rfl rfl ?_)) <;> (first | (refine Db rfl rfl rfl (x1Gs (Agrees7_ok lo (rs := rs ++ [⟨xa, xs, xe, xg⟩]) (by rw [List.length_append, List.length_singleton]; omega) (by rw [List.length_append, List.length_singleton]; omega) (fun r hr => (hall r hr).le ZC.le) hag) rfl (fun _ Z25 hz25 ho => ?_)); (subst ho)) | (refine Dc rfl rfl rfl ?_)) <;> (first | (refine Da rfl rfl (X_pickT rfl rfl ?_)) | (refine Da rfl rfl (X_pickF rfl rfl ?_))) <;> (refine Da rfl rfl (X_mv rfl ?_)) <;> (refine D_nil ?_))) <;> ((refine thenQ_nrm ?_; (refine W_ret ?_)))))))
  <;> (refine fnP_ret (Res.tmp rfl Res.nil) ?_)
  all_goals first
    | rfl
    | (exfalso; omega)
end Go.Proofs.Ytbjgnogcjglcoaa.Hm.V
