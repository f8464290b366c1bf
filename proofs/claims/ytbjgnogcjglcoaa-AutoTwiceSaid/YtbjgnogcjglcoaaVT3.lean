import Derived.Test.YtbjgnogcjglcoaaHF
import Derived.Test.YtbjgnogcjglcoaaA6
import Derived.Test.YtbjgnogcjglcoaaVT2
import Derived.Test.YtbjgnogcjglcoaaVH3
import Derived.Test.YtbjgnogcjglcoaaSV
import Derived.Test.YtbjgnogcjglcoaaSA
namespace Go.Proofs.Ytbjgnogcjglcoaa.Hm.V
open Go
set_option linter.all false
set_option maxRecDepth 100000
attribute [local irreducible] X S R D W Call Upd Rds Rck Sees Res Cel CallP fnQ
theorem rising_ne {l : List Int} {S : Int} (h : risingP l S) (k : Nat) (h0 : 0 < k) (h1 : k < l.length) : ¬ l.getD k default = l.getD (k - 1) default := by
  have := (h k h1).2.2 h0
  omega
theorem rising_pw {l : List Int} {S : Int} (h : risingP l S) : l.Pairwise (fun x y => x < y) := by
  rw [List.pairwise_iff_getElem]
  have key : ∀ d i, i + d + 1 < l.length → l.getD i default < l.getD (i + d + 1) default := by
    intro d
    induction d with
    | zero => intro i hi; have := (h (i + 1) hi).2.2 (by omega); simpa using this
    | succ d ih =>
      intro i hi
      have h1 := ih i (by omega)
      have h2 := (h (i + d + 1 + 1) (by omega)).2.2 (by omega)
      rw [Nat.add_sub_cancel] at h2
      rw [show i + (d + 1) + 1 = i + d + 1 + 1 by omega]
      omega
  intro i j hi hj hij
  have := key (j - i - 1) i (by omega)
  rw [show i + (j - i - 1) + 1 = j by omega, getD_eq hi, getD_eq hj] at this
  exact this
theorem sort_rising {l : List Int} {S : Int} (h : risingP l S) : l.mergeSort leI = l :=
  List.mergeSort_of_pairwise ((rising_pw h).imp fun hx => decide_eq_true (by omega))
theorem flat_ints : ∀ l : List Int, (l.map cI).flatten = l.map (Value.int .i64)
  | [] => rfl
  | x :: l => by rw [List.map_cons, List.flatten_cons, flat_ints l]; rfl
theorem decI_of : ∀ l : List Int, decI (l.map (Value.int .i64)) = some l
  | [] => rfl
  | x :: l => by rw [List.map_cons, decI, decI_of l]; rfl
theorem sortR_call {F : Nat → Option HFn} {lo k : Nat} {Z : Vw} {fn : HFn} {v : Value} {l : List Int} {S : Int} (hF : F k = some fn) (hp : fn.prim = some sortPI) (hr : risingP l S) (hlen : l.length < 4611686018427387904) :
    Call1 F lo k [v] Z (.gro v 1 (l.map cI)) fun r _ o' => o' = .gro v 1 (l.map cI) ∧ r = .tuple #[] := by
  unfold Call1 Call
  intro R h m
  have m : Mem lo Z (.gro v 1 (l.map cI) :: R) h := m
  cases l with
  | nil =>
    obtain ⟨h5, he, ⟨rfl, _⟩ | ⟨b, c, fl, rfl, h1, h2, h3, h4⟩ | ⟨b, rfl, h1, h2⟩⟩ := m.own _ List.mem_cons_self
    all_goals
      refine ⟨0, .tuple #[], h, Z, [_], ?_, .refl _, m, _, rfl, rfl, rfl⟩
      unfold hcall
      rw [hF]
      simp only [hp]
      simp [sortPI]
  | cons x l =>
    obtain ⟨b, sp, cp, rfl, hrd, h', hw, m'⟩ := gro_whole m (xs' := (x :: l).map cI) rfl (fun y hy => by obtain ⟨z, _, rfl⟩ := List.mem_map.1 hy; rfl) (by simp)
    refine ⟨0, .tuple #[], h', Z, [_], ?_, .refl _, m', _, rfl, rfl, rfl⟩
    unfold hcall
    rw [hF]
    simp only [hp, sortPI]
    rw [List.length_map] at hrd ⊢
    rw [flat_ints, Nat.mul_one] at hrd
    rw [flat_ints] at hw
    rw [if_neg (by simp), if_pos hlen]
    simp only [hrd, decI_of, sort_rising hr, hw, Option.map_some]
theorem SortR_ok (lo : Nat) {Z : Vw} {v : Value} {l : List Int} {S : Int} (hr : risingP l S) (hlen : l.length < 4611686018427387904) : Call1 F lo 110 [v] Z (.gro v 1 (l.map cI)) fun r _ o' => o' = .gro v 1 (l.map cI) ∧ r = .tuple #[] := sortR_call rfl rfl hr hlen
theorem SortE_ok (lo : Nat) {Z : Vw} {v : Value} {l : List FT} (hlen : l.length < 4611686018427387904) : Call1 F lo 111 [v, .func (.func 53) #[] #[]] Z (.gro v 3 (l.map encT)) fun r _ o' => r = .tuple #[] ∧ o' = .gro v 3 ((l.mergeSort leT).map encT) := sort_call rfl rfl hlen
set_option maxHeartbeats 4000000 in
theorem CompactI_ok (lo : Nat) {Z : Vw} {v : Value} {l : List Int} {S : Int} (hr : risingP l S) (hlen : l.length < 4611686018427387904) : Call1 F lo 105 [v] Z (.gro v 1 (l.map cI)) fun r _ o' => o' = .gro v 1 (l.map cI) ∧ v = r := by
  have hne := rising_ne hr
  refine Fn1 (fn := c105) rfl rfl rfl ?_
  (refine W_seq ?_; (refine W_rgn ?_; ((refine Ra rfl (X_mv rfl ?_)) <;> (refine R_nil ?_))) <;> ((refine thenQ_nrm ?_; (refine W_seq ?_; (refine W_seq ?_; (refine W_rgn ?_; ((refine Ra rfl (X_mv rfl ?_)) <;> (refine Ra rfl (xLen rfl ?_)) <;> (refine Ra rfl (X_lss rfl rfl (fun _ => ?_) (fun _ => ?_))) <;> (refine R_nil ?_))) <;> ((refine thenQ_nrm ?_; (refine W_cond rfl (fun ht => ?_) (fun ht => ?_) <;> (first | exact absurd ht (by decide) | (refine W_seq ?_; (refine W_rgn ?_; ((refine Ra rfl (X_mv rfl ?_)) <;> (refine Ra rfl (X_mv rfl ?_)) <;> (refine R_nil ?_))) <;> ((refine thenQ_nrm ?_; (refine W_ret ?_)))) | (refine W_skip ?_)))))) <;> (first | refine thenQ_ret ?_ | (refine thenQ_nrm ?_; (refine W_seq ?_; (refine W_seq ?_; (refine W_rgn ?_; ((refine Ra rfl (X_mv rfl ?_)) <;> (refine R_nil ?_))) <;> ((refine thenQ_nrm ?_; (refine W_block ?_; ((
      refine wLoop (fun k : Nat => [(3, .int .i64 (k : Nat))]) (fun k => [.gro v 1 (l.map cI)]) (fun k Zi => 1 ≤ k ∧ k ≤ l.length) (fun k => l.length - k) 1 (by repeat' (first | exact trivial | exact rfl | constructor)) (Upd.done ⟨⟨Nat.le_refl _, by omega⟩, (hG rfl Has.nil)⟩) ?_
      intro k Z1 hz1 hp
      obtain ⟨hk1, hk2⟩ := hp) <;> (refine W_seq ?_; (refine W_seq ?_; (refine W_rgn ?_; ((refine Ra rfl (X_mv rfl ?_)) <;> (refine Ra rfl (X_mv rfl ?_)) <;> (refine Ra rfl (xLen rfl ?_)) <;> (refine Ra rfl (X_lss rfl rfl (fun _ => ?_) (fun _ => ?_))) <;> (refine R_nil ?_))) <;> ((refine thenQ_nrm ?_; (refine W_cond rfl (fun ht => ?_) (fun ht => ?_) <;> (first | exact absurd ht (by decide) | (refine W_skip ?_) | (refine W_exit ?_)))))) <;> (first | refine thenQ_ext ?_ | (refine thenQ_nrm ?_; (refine W_seq ?_; (refine W_block ?_; (refine W_seq ?_; (refine W_drw ?_; ((refine Da rfl rfl (X_mv rfl ?_)) <;> (refine Da rfl rfl (X_mv rfl ?_)) <;> (refine Da rfl rfl (xIa rfl rfl (by omega) (by omega) ?_)) <;> (refine Da rfl rfl (X_load (lE0 rfl (by omega) rfl) ?_)) <;> (refine Da rfl rfl (X_mv rfl ?_)) <;> (refine Da rfl rfl (X_mv rfl ?_)) <;> (refine Da rfl rfl (X_subI rfl rfl (by omega) (by omega) ?_)) <;> (refine Da rfl rfl (xIa rfl rfl (by omega) (by omega) ?_)) <;> (refine Da rfl rfl (X_load (lE0 rfl (by omega) rfl) ?_)) <;> (refine Da rfl rfl (X_eql rfl rfl (fun he => absurd he (hne k (by omega) (by omega))) (fun _ => ?_))) <;> (refine D_nil ?_))) <;> ((refine thenQ_nrm ?_; (refine W_cond rfl (fun ht => ?_) (fun ht => ?_) <;> (first | exact absurd ht (by decide) | (refine W_skip ?_)))))) <;> (refine blockQ_nrm ?_)) <;> ((refine thenQ_nrm ?_; (refine W_rgn ?_; ((refine Ra rfl (X_mv rfl ?_)) <;> (refine Ra rfl (X_addI rfl rfl (by omega) (by omega) ?_)) <;> (refine Ra rfl (X_mv rfl ?_)) <;> (refine R_nil ?_))))))))) <;> (first | refine thenQ_ext ?_ | (refine thenQ_nrm ?_; (
        refine Upd.done ⟨k + 1, by omega, ⟨by omega, by omega⟩, (by repeat' (first | exact trivial | exact rfl | constructor)), (hG rfl Has.nil)⟩)))) <;> (refine blockQ_ext ?_))))) <;> ((refine thenQ_nrm ?_; (refine W_seq ?_; (refine W_rgn ?_; ((refine Ra rfl (X_mv rfl ?_)) <;> (refine Ra rfl (X_mv rfl ?_)) <;> (refine R_nil ?_))) <;> ((refine thenQ_nrm ?_; (refine W_ret ?_)))))))))))))
  <;> (refine fn1_ret (Res.tmp rfl Res.nil) (hG (v := v) rfl Has.nil) ?_)
  all_goals exact ⟨rfl, rfl⟩
set_option maxHeartbeats 4000000 in
theorem CloneG1_ok (lo : Nat) {Z : Vw} {v : Value} {l : List Int} [hl : FzL Z 1 v (l.map cI)] (hlen : l.length ≤ 1000000) : Call F lo 72 [v] Z [] fun r Z' O' => O' = [.gro r 1 (l.map cI)] := by
  have hl := hl.out
  refine Fn (fn := c72) rfl rfl rfl ?_
  (refine W_seq ?_; (refine W_rgn ?_; ((refine Ra rfl (X_mv rfl ?_)) <;> (refine R_nil ?_))) <;> ((refine thenQ_nrm ?_; (refine W_seq ?_; (refine W_seq ?_; (refine W_rgn ?_; ((refine Ra rfl (X_mv rfl ?_)) <;> (refine Ra rfl (xNilZ rfl rfl (fun hv hx => ?_) ?_)) <;> (refine R_nil ?_))) <;> ((refine thenQ_nrm ?_; (refine W_cond rfl (fun ht => ?_) (fun ht => ?_) <;> (first | exact absurd ht (by decide) | (refine W_seq ?_; (refine W_rgn ?_; ((refine Ra rfl (X_mv rfl ?_)) <;> (refine R_nil ?_))) <;> ((refine thenQ_nrm ?_; (refine W_ret ?_)))) | (refine W_skip ?_)))))) <;> (first | refine thenQ_ret ?_ | (refine thenQ_nrm ?_; (refine W_seq ?_; (refine W_rgn ?_; ((refine Ra rfl (X_bsliceC Parts.nil rfl rfl rfl (fun v5 => ?_)); (rcases Nat.eq_zero_or_pos l.length with hl0 | hl0)) <;> (refine Ra rfl (X_mv rfl ?_)) <;> (first | (refine Ra rfl (xApA (xs := []) (c := 0) rfl rfl rfl (by simp only [List.length_map, List.length_nil]; omega) (by simp only [List.length_map, List.length_nil]; omega) (fun v7 => ?_))) | (refine Ra rfl (xApR (xs := []) (c := 0) rfl rfl (by simp only [List.length_map, List.length_nil]; omega) (fun v7 => ?_)))) <;> (refine Ra rfl (X_mv rfl ?_)) <;> (refine R_nil ?_))) <;> ((refine thenQ_nrm ?_; (refine W_ret ?_))))))))))
  <;> (refine fn_ret (Res.tmp rfl Res.nil) ?_)
  all_goals first
    | (have hl9 : l = [] := by simpa using hx
       subst hl9
       exact Upd.gro0 (by decide) (Upd.has (hG (v := .slice none 0 0) rfl Has.nil) rfl))
    | exact Upd.has (hG (v := v7) (by simp) Has.nil) rfl
    | (have hl9 : l = [] := List.length_eq_zero_iff.1 hl0
       subst hl9
       exact Upd.has (hAG (v := v7) rfl rfl rfl Has.nil) rfl)
set_option maxHeartbeats 4000000 in
theorem done_ok (lo : Nat) {Z : Vw} {b : Nat} {vs ve vg : Value} {S L S1 S2 : Int} {st en : List Int} {ed : List Ed} (hst : risingP st S1) (hen : risingP en S2) (hf : fines ed) (h1 : st.length < 4611686018427387904) (h2 : en.length < 4611686018427387904) (h3 : ed.length < 4611686018427387904) :
    Call F lo 86 [.pointer (some ⟨b, 0, none⟩)] Z [.box b [.int .i64 S, .int .i64 L, vs, ve, vg], .gro vs 1 (st.map cI), .gro ve 1 (en.map cI), .gro vg 3 (ed.map Ed.c)] fun r Z' O' => O' = [] ∧ AuV Z' r ⟨S, L, st, en, doneE ed⟩ := by
  rw [map_fine hf]
  refine Fn (fn := c86) rfl rfl rfl ?_
  (refine W_seq ?_; (refine W_rgn ?_; ((refine Ra rfl (X_alloc (fun b2 => ?_))) <;> (refine R_nil ?_))) <;> ((refine thenQ_nrm ?_; (refine W_seq ?_; (refine W_rgn ?_; ((refine Ra rfl (X_mv rfl ?_)) <;> (refine Ra rfl (X_nilchk rfl ?_)) <;> (refine Ra rfl (X_faddr rfl ?_)) <;> (refine Ra rfl (X_faddr rfl ?_)) <;> (refine Ra rfl (X_load (lB rfl rfl) ?_)) <;> (refine Ra rfl (x1Gs (SortR_ok lo (by assumption) (by omega)) rfl (fun _ Z8 hz8 ho => ?_)); (subst ho)) <;> (refine R_nil ?_))) <;> ((refine thenQ_nrm ?_; (refine W_seq ?_; (refine W_rgn ?_; ((refine Ra rfl (X_mv rfl ?_)) <;> (refine Ra rfl (X_nilchk rfl ?_)) <;> (refine Ra rfl (X_faddr rfl ?_)) <;> (refine Ra rfl (X_faddr rfl ?_)) <;> (refine Ra rfl (X_load (lB rfl rfl) ?_)) <;> (refine Ra rfl (x1Gs (SortR_ok lo (by assumption) (by omega)) rfl (fun _ Z14 hz14 ho => ?_)); (subst ho)) <;> (refine R_nil ?_))) <;> ((refine thenQ_nrm ?_; (refine W_seq ?_; (refine W_rgn ?_; ((refine Ra rfl (X_mv rfl ?_)) <;> (refine Ra rfl (X_nilchk rfl ?_)) <;> (refine Ra rfl (X_faddr rfl ?_)) <;> (refine Ra rfl (X_faddr rfl ?_)) <;> (refine Ra rfl (X_load (lB rfl rfl) ?_)) <;> (refine Ra rfl (x1G (SortE_ok lo (by rw [List.length_map]; omega)) rfl (fun _ Z20 o20 hz20 ho => ?_)); (obtain ⟨rfl, rfl⟩ := ho)) <;> (refine R_nil ?_))) <;> ((refine thenQ_nrm ?_; (refine W_seq ?_; (refine W_drw ?_; ((refine Da rfl rfl (X_mv rfl ?_)) <;> (refine Da rfl rfl (X_mv rfl ?_)) <;> (refine Da rfl rfl (X_mv rfl ?_)) <;> (refine Da rfl rfl (X_mv rfl ?_)) <;> (refine Da rfl rfl (X_nilchk rfl ?_)) <;> (refine Da rfl rfl (X_faddr rfl ?_)) <;> (refine Da rfl rfl (X_faddr rfl ?_)) <;> (refine Da rfl rfl (X_load (lB rfl rfl) ?_)) <;> (refine Da rfl rfl (X_mv rfl ?_)) <;> (refine Da rfl rfl (X_nilchk rfl ?_)) <;> (refine Da rfl rfl (X_faddr rfl ?_)) <;> (refine Da rfl rfl (X_faddr rfl ?_)) <;> (refine Da rfl rfl (X_load (lB rfl rfl) ?_)) <;> (refine Da rfl rfl (X_mv rfl ?_)) <;> (refine Da rfl rfl (X_nilchk rfl ?_)) <;> (refine Da rfl rfl (X_faddr rfl ?_)) <;> (refine Da rfl rfl (X_faddr rfl ?_)) <;> (refine Da rfl rfl (X_load (lB rfl rfl) ?_)) <;> (refine D_consR rfl (S_do rfl (x1Gs (CompactI_ok lo (by assumption) (by omega)) rfl (fun _ Z29 hz29 ho => ⟨(by (refine rDo rfl rfl (lB rfl rfl) ?_); (refine rDo rfl rfl (lB rfl rfl) ?_); exact Rck_nil), ?_⟩))); (subst ho)) <;> (refine D_consR rfl (S_do rfl (x1Gs (CompactI_ok lo (by assumption) (by omega)) rfl (fun _ Z35 hz35 ho => ⟨(by (refine rDo rfl rfl (lB rfl rfl) ?_); exact Rck_nil), ?_⟩))); (subst ho)) <;> (refine Da rfl rfl (xNe (L' := []) (CompactE_ok lo (by rw [List.length_mergeSort, List.length_map]; omega)) rfl (pG rfl Pick.nil) (fun v41 Z41 hz41 hf41 => ?_))) <;> (refine Da rfl rfl (X_nilchk rfl ?_)) <;> (refine Da rfl rfl (X_faddr rfl ?_)) <;> (refine Da rfl rfl (X_faddr rfl ?_)) <;> (refine Dn rfl (xSB rfl rfl rfl rfl rfl ?_)) <;> (refine Da rfl rfl (X_nilchk rfl ?_)) <;> (refine Da rfl rfl (X_faddr rfl ?_)) <;> (refine Da rfl rfl (X_faddr rfl ?_)) <;> (refine Dn rfl (xSB rfl rfl rfl rfl rfl ?_)) <;> (refine Da rfl rfl (X_nilchk rfl ?_)) <;> (refine Da rfl rfl (X_faddr rfl ?_)) <;> (refine Da rfl rfl (X_faddr rfl ?_)) <;> (refine Dn rfl (xSB rfl rfl rfl rfl rfl ?_)) <;> (refine D_nil ?_))) <;> ((refine thenQ_nrm ?_; (refine W_seq ?_; (refine W_rgn ?_; ((refine Ra rfl (X_mv rfl ?_)) <;> (refine Ra rfl (X_nilchk rfl ?_)) <;> (refine Ra rfl (X_faddr rfl ?_)) <;> (refine Ra rfl (X_load (lBA rfl rfl) ?_)) <;> (refine Rn (xSW rfl rfl rfl rfl ?_)) <;> (refine R_nil ?_))) <;> ((refine thenQ_nrm ?_; (refine W_ret ?_)))))))))))))))))))
  <;> (refine fn_ret (rA rfl rfl Res.nil) ?_)
  refine uG vs fun Z7 hz7 hf7 => uG ve fun Z8 hz8 hf8 => Upd.nil ⟨rfl, vs, ve, v41, rfl, hf7.le ZC.le, hf8, ?_, by dsimp only; omega, by dsimp only; omega, Nat.lt_of_le_of_lt (doneE_len ed) (by omega)⟩
  have hl9 : ((ed.map toFT).mergeSort leT).length = ed.length := by rw [List.length_mergeSort, List.length_map]
  rw [hl9] at hf41
  have e9 : (doneE ed).map Ed.c = (cpt ((ed.map toFT).mergeSort leT) ed.length).map encT := (map_enc _).symm
  show Fz Z8 3 v41 ((doneE ed).map Ed.c)
  rw [e9]
  exact hf41.le ZC.le
end Go.Proofs.Ytbjgnogcjglcoaa.Hm.V
