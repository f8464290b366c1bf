import Derived.Test.YtlidnionbofkaaaHF
import Derived.Test.YtlidnionbofkaaaA6
import Derived.Test.YtlidnionbofkaaaVQ3
namespace Go.Proofs.Ytlidnionbofkaaa.Hm.V
open Go
set_option linter.all false
set_option maxRecDepth 100000
attribute [local irreducible] X XG S R D W Call CallG Upd Rds Rck Sees Res Cel CallP fnQ fnG
def exQ (res : Option (Ex × List Tok)) (L : List Tok) : Value → Vw → List Tok → Prop := fun v Z L1 => L1.length ≤ L.length ∧ ∃ t : Et, v = .agg ⟨t.cs⟩ ∧ Tr Z t ∧ (res = some (t.er, L1) ∨ (res = none ∧ L1.head? = some [64]))
def ExOK (F : Nat → Option HFn) (lo : Nat) (w k : Int) (vv : Value) (s : List UInt8) (b : Nat) (vs : List Vr) (rec : Prs) (m : Nat) : Prop :=
  ∀ {a : Nat} {t : Tok} {L : List Tok} {Z : Vw}, SU s a t L → Vrs Z vv vs → L.length < m → CallG F lo 41 [.pointer (some ⟨b, 0, none⟩)] Z [rdB w k vv s b a t] (outP w k vv s b (exQ (rec L) L) (rec L = none))
theorem takeT_stuck {m : Tok} {L : List Tok} (h : L.head? = some [64]) (hm : m ≠ [64]) : takeT m L = none := by
  cases L with
  | nil => rfl
  | cons u r =>
    obtain rfl : u = [64] := by simpa using h
    rw [takeT]; exact if_neg (Ne.symm hm)
theorem SU.head {s : List UInt8} {a : Nat} {t : Tok} {L : List Tok} (h : SU s a t L) (h0 : t ≠ []) : L.head? = some t := by
  obtain ⟨r, rfl⟩ := St_cons h h0; rfl
theorem argR_no {rec : Prs} {n c : Int} {s : List UInt8} {a : Nat} {t : Tok} {L : List Tok} (h : SU s a t L) (e : ¬ t = [91]) : argR rec n c L = some (.mk 1 n c [], L) := by
  replace h := h.st
  cases L with
  | nil => rfl
  | cons u r => obtain rfl := h.1; rw [argR]; exact if_neg e
def argK (rec : Prs) (n c : Int) (L4 : List Tok) : Option (Ex × List Tok) := match rec L4 with
  | none => none
  | some (a, L5) => match takeT [93] L5 with
    | none => none
    | some L6 => some (.mk 1 n c [a], L6)
theorem argR_yes {rec : Prs} {n c : Int} {s : List UInt8} {a : Nat} {t : Tok} {L : List Tok} (h : SU s a t L) (e : t = [91]) : argR rec n c L = match advT L with
    | none => none
    | some L4 => argK rec n c L4 := by
  subst e
  obtain ⟨r, rfl⟩ := St_cons h (by simp)
  rw [argR]
  exact if_pos rfl
theorem readR_none {nv : Tok → Int} {cp : Bool} {vs : List Vr} {rec : Prs} {L : List Tok} (e : advT L = none) : readR nv cp vs rec L = none := by
  cases L with
  | nil => rfl
  | cons t r => simp only [readR, e]
def readK (nv : Tok → Int) (cp : Bool) (rec : Prs) (n : Int) (L1 : List Tok) : Option (Ex × List Tok) := match cp with
  | true => (match takeT [64] L1 with
    | none => none
    | some L2 => match numT nv L2 with
      | none => none
      | some (c, L3) => argR rec n c L3)
  | false => if L1.head? = some [64] then none else argR rec n 0 L1
theorem readR_t {nv : Tok → Int} {cp : Bool} {vs : List Vr} {rec : Prs} {s : List UInt8} {a : Nat} {t : Tok} {L L1 : List Tok} (h : SU s a t L) (h0 : t ≠ []) (e : advT L = some L1) : readR nv cp vs rec L = readK nv cp rec (nameI vs t) L1 := by
  obtain ⟨r, rfl⟩ := St_cons h h0
  simp only [readR, e]
  rfl
theorem readK_t {nv : Tok → Int} {rec : Prs} {n c : Int} {L1 L2 L3 : List Tok} (e : takeT [64] L1 = some L2) (e2 : numT nv L2 = some (c, L3)) : readK nv true rec n L1 = argR rec n c L3 := by simp only [readK, e, e2]
theorem readK_n1 {nv : Tok → Int} {rec : Prs} {n : Int} {L1 : List Tok} (e : takeT [64] L1 = none) : readK nv true rec n L1 = none := by simp only [readK, e]
theorem readK_n2 {nv : Tok → Int} {rec : Prs} {n : Int} {L1 L2 : List Tok} (e : takeT [64] L1 = some L2) (e2 : numT nv L2 = none) : readK nv true rec n L1 = none := by simp only [readK, e, e2]
theorem readK_f {nv : Tok → Int} {rec : Prs} {n : Int} {L1 : List Tok} (h : ¬ L1.head? = some [64]) : readK nv false rec n L1 = argR rec n 0 L1 := by simp only [readK, if_neg h]
theorem readK_s {nv : Tok → Int} {rec : Prs} {n : Int} {L1 : List Tok} (h : L1.head? = some [64]) : readK nv false rec n L1 = none := by simp only [readK, if_pos h]
theorem argK_n1 {rec : Prs} {n c : Int} {L : List Tok} (e : rec L = none) : argK rec n c L = none := by simp only [argK, e]
theorem argK_n2 {rec : Prs} {n c : Int} {L L1 : List Tok} {x : Ex} (e : rec L = some (x, L1) ∨ (rec L = none ∧ L1.head? = some [64])) (e2 : takeT [93] L1 = none) : argK rec n c L = none := by
  rcases e with e | e
  · simp only [argK, e, e2]
  · simp only [argK, e.1]
theorem argK_ok {rec : Prs} {n c : Int} {L L1 L2 : List Tok} {x : Ex} (e : rec L = some (x, L1) ∨ (rec L = none ∧ L1.head? = some [64])) (e2 : takeT [93] L1 = some L2) : argK rec n c L = some (.mk 1 n c [x], L2) := by
  rcases e with e | e
  · simp only [argK, e, e2]
  · rw [takeT_stuck e.2 (by decide)] at e2; cases e2
theorem argR_n {rec : Prs} {n c : Int} {s : List UInt8} {a : Nat} {t : Tok} {L : List Tok} (h : SU s a t L) (e : t = [91]) (e1 : advT L = none) : argR rec n c L = none := by rw [argR_yes h e, e1]
theorem argR_k {rec : Prs} {n c : Int} {s : List UInt8} {a : Nat} {t : Tok} {L L4 : List Tok} (h : SU s a t L) (e : t = [91]) (e1 : advT L = some L4) : argR rec n c L = argK rec n c L4 := by rw [argR_yes h e, e1]
theorem Tr_one {Z Z' : Vw} {op n c : Int} {v : Value} {t : Et} (hf : Fz Z' 4 v [t.cs]) (ht : Tr Z t) (hz : Z.le Z') : Tr Z' (.mk op n c v [t]) := Tr_mk.2 ⟨⟨hf, by simp⟩, fun a ha => by rw [List.mem_singleton.1 ha]; exact ht.le hz⟩
theorem Tr_none (Z : Vw) (op n c : Int) : Tr Z (.mk op n c (.slice none 0 0) []) := Tr_mk.2 ⟨⟨Fz.nil _ _, by simp⟩, fun a ha => absurd ha (by simp)⟩
theorem nameI_of {vs : List Vr} {t : Tok} {x : Int} (hd : ∀ i j, j < i → i < vs.length → (vs.getD j default).nm ≠ (vs.getD i default).nm) (h : (x = -1 ∧ ∀ j, j < vs.length → (vs.getD j default).nm ≠ t) ∨ ∃ j : Nat, x = j ∧ j < vs.length ∧ (vs.getD j default).nm = t) : nameI vs t = x := by
  rcases h with ⟨rfl, h⟩ | ⟨j, rfl, hj, h⟩
  · exact nameI_no h
  · exact nameI_at hj h fun i hi e => hd j i hi hj (e.trans h.symm)
set_option maxHeartbeats 4000000 in
theorem read_ok (lo : Nat) {Z : Vw} {w k : Int} {vv : Value} {s : List UInt8} {b a : Nat} {t : Tok} {L : List Tok} (hs : s.length < 1000000) (hS : SU s a t L) {vs : List Vr} {rec : Prs} {cp : Bool} {m : Nat} (hcp : cp = true ↔ 1 < k) (hd : ∀ i j, j < i → i < vs.length → (vs.getD j default).nm ≠ (vs.getD i default).nm) (hvl : vs.length < 9223372036854775808) (hE : ExOK F lo w k vv s b vs rec m) (h0 : t ≠ []) (hm : L.length < m + 1) (hv : Vrs Z vv vs) : CallG F lo 74 [.pointer (some ⟨b, 0, none⟩)] Z [rdB w k vv s b a t] (outP w k vv s b (exQ (readR numP cp vs rec L) L) (readR numP cp vs rec L = none)) := by
  have hl0 := hm
  refine FnG (fn := c74) rfl rfl rfl ?_
  (refine W_seq ?_; (refine W_rgn ?_; ((refine Ra rfl (X_alloc (fun b2 => ?_))) <;> (refine R_nil ?_))) <;> ((refine thenQ_nrm ?_; (refine W_seq ?_; (refine W_rgn ?_; ((refine Ra rfl (X_buildC (pCons rfl (pCons rfl Parts.nil)) rfl ?_)) <;> (refine Ra rfl (X_alloc (fun b3 => ?_))) <;> (refine Rn (xSW rfl rfl rfl rfl ?_)) <;> (refine R_nil ?_))) <;> ((refine thenQ_nrm ?_; (refine W_seq ?_; (refine W_seq ?_; (refine W_rgn ?_; ((refine Ra rfl (X_mv rfl ?_)) <;> (refine Ra rfl (X_nilchk rfl ?_)) <;> (refine Ra rfl (X_faddr rfl ?_)) <;> (refine Ra rfl (X_faddr rfl ?_)) <;> (refine Ra rfl (X_load (lB rfl rfl) ?_)) <;> (refine Ra rfl (xLen rfl ?_)) <;> (refine Ra rfl (X_mv rfl ?_)) <;> (refine R_nil ?_))) <;> ((refine thenQ_nrm ?_; (refine W_block ?_; ((
      refine wLoop (fun (p : Nat × Int) => match p with | (i, _) => [(13, .int .i64 (i : Nat))]) (fun p => match p with | (_, x) => [rdB w k vv s b a t, .box b3 [.int .i64 1, .int .i64 x, .int .i64 0, .slice none 0 0], .box b2 [.int .i64 0, .int .i64 0, .int .i64 0, .slice none 0 0]]) (fun p _ => match p with | (i, x) => i ≤ vs.length ∧ ((x = -1 ∧ ∀ j, j < i → (vs.getD j default).nm ≠ t) ∨ ∃ j : Nat, x = j ∧ j < i ∧ (vs.getD j default).nm = t)) (fun p => match p with | (i, _) => vs.length - i) (0, -1) (by repeat' (first | exact trivial | exact rfl | constructor)) (Upd.done ⟨⟨Nat.zero_le _, .inl ⟨rfl, fun j hj => absurd hj (by omega)⟩⟩, hB rfl (hB rfl (hB rfl Has.nil))⟩) ?_
      rintro ⟨i, x⟩ Z1 hz1 hp
      obtain ⟨hi, hx⟩ : i ≤ vs.length ∧ ((x = -1 ∧ ∀ j, j < i → (vs.getD j default).nm ≠ t) ∨ ∃ j : Nat, x = j ∧ j < i ∧ (vs.getD j default).nm = t) := hp) <;> (refine W_seq ?_; (refine W_rgn ?_; ((refine Ra rfl (X_lss rfl rfl (fun _ => ?_) (fun _ => ?_))) <;> (refine R_nil ?_))) <;> ((refine thenQ_nrm ?_; (refine W_seq ?_; (refine W_cond rfl (fun ht => ?_) (fun ht => ?_) <;> (first | exact absurd ht (by decide) | (refine W_skip ?_) | (refine W_exit ?_))) <;> (first | refine thenQ_ext ?_ | (refine thenQ_nrm ?_; (refine W_seq ?_; (refine W_block ?_; (refine W_seq ?_; (refine W_rgn ?_; ((refine Ra rfl (X_mv rfl ?_)) <;> (refine Ra rfl (xIa rfl rfl (by omega) (by omega) ?_)) <;> (refine Ra rfl (X_load (lEA rfl (by omega)) ?_)) <;> (refine Ra rfl (X_alloc (fun b5 => ?_))) <;> (refine Ra rfl (X_mv rfl ?_)) <;> (refine Rn (xSW rfl rfl rfl rfl ?_)) <;> (refine R_nil ?_))) <;> ((refine thenQ_nrm ?_; (refine W_seq ?_; (refine W_drw ?_; ((refine Da rfl rfl (X_faddr rfl ?_)) <;> (refine Da rfl rfl (X_load (lB rfl rfl) ?_)) <;> (refine Da rfl rfl (X_mv rfl ?_)) <;> (refine Da rfl rfl (X_nilchk rfl ?_)) <;> (refine Da rfl rfl (X_faddr rfl ?_)) <;> (refine Da rfl rfl (X_load (lB rfl rfl) ?_)) <;> (refine Da rfl rfl (xEqL rfl rfl (fun he24 => ?_) (fun he24 => ?_))) <;> (refine D_nil ?_))) <;> ((refine thenQ_nrm ?_; (refine W_cond rfl (fun ht => ?_) (fun ht => ?_) <;> (first | exact absurd ht (by decide) | (refine W_rgn ?_; ((refine Ra rfl (X_mv rfl ?_)) <;> (refine Ra rfl (X_faddr rfl ?_)) <;> (refine Rn (xSB rfl rfl rfl rfl rfl ?_)) <;> (refine R_nil ?_))) | (refine W_skip ?_))))))))) <;> (refine blockQ_nrm ?_)) <;> ((refine thenQ_nrm ?_; (refine W_rgn ?_; ((refine Ra rfl (X_addI rfl rfl (by omega) (by omega) ?_)) <;> (refine Ra rfl (X_mv rfl ?_)) <;> (refine R_nil ?_)))))))))))) <;> (first | refine thenQ_ext ?_ | (refine thenQ_nrm ?_; (
        first
          | (refine Upd.done ⟨(i + 1, (i : Int)), ?_, ⟨?_, .inr ⟨i, rfl, Nat.lt_succ_self i, he24⟩⟩, (by repeat' (first | exact trivial | exact rfl | constructor)), hB rfl (hB rfl (hB rfl Has.nil))⟩
             · show vs.length - (i + 1) < vs.length - i
               omega
             · show i + 1 ≤ vs.length
               omega)
          | (have hne : ¬ (vs.getD i default).nm = t := he24
             refine Upd.done ⟨(i + 1, x), ?_, ⟨?_, ?_⟩, (by repeat' (first | exact trivial | exact rfl | constructor)), hB rfl (hB rfl (hB rfl Has.nil))⟩
             · show vs.length - (i + 1) < vs.length - i
               omega
             · show i + 1 ≤ vs.length
               omega
             · rcases hx with ⟨h1, h2⟩ | ⟨j, h1, h2, h3⟩
               · refine .inl ⟨h1, fun j hj => ?_⟩
                 rcases Nat.lt_or_ge j i with h | h
                 · exact h2 j h
                 · obtain rfl : j = i := by omega
                   exact hne
               · exact .inr ⟨j, h1, by omega, h3⟩))))) <;> (refine blockQ_ext ?_))))) <;> ((refine thenQ_nrm ?_; (refine W_seq ?_; (refine W_rgn ?_; ((refine Ra rfl (X_mv rfl ?_)) <;> (refine RaG rfl (xNG (next2_ok lo hs (by assumption) (by first | assumption | (rename_i e9; rw [e9]; decide) | (intro e9; subst e9; simp at *))) rfl (pB rfl Pick.nil) (fun r29 Z29 o29 hz29 hq O2 hO => ?_) (fun _ Zp op hzp hq O2 hO => (by obtain ⟨ap, tp, rfl, rfl, hrp⟩ := hq; simp only [List.cons_append, List.nil_append] at hO; subst hO; exact (by (repeat (first | refine thenQ_pan ?_ | refine blockQ_pan ?_)); refine fnG_pan ?_; exact Upd.has (L := [rdB w k vv s b _ _]) (hB rfl Has.nil) ⟨_, _, rfl, rfl, by (first | exact readR_none hrp | (rw [readR_t hS h0 hr29]; (first | (obtain rfl : cp = true := hcp.2 (by omega); (first | exact readK_n1 hrp | exact readK_n2 hr37 hrp | (rw [readK_t hr37 hn39]; (first | exact argR_n hS39 (by assumption) hrp | (rw [argR_k hS39 (by assumption) hr47]; first | exact argK_n1 hrp | exact argK_n2 he49 hrp))))) | (obtain rfl : cp = false := (by cases cp; rfl; exact absurd (hcp.1 rfl) (by omega)); rw [readK_f (by rw [hS29.head (by rw [he45]; decide), he45]; decide)]; (first | exact argR_n hS29 (by assumption) hrp | (rw [argR_k hS29 (by assumption) hr47]; first | exact argK_n1 hrp | exact argK_n2 he49 hrp))))))⟩)))); (obtain ⟨a29, t29, L29, rfl, hS29, hr29⟩ := hq; simp only [List.cons_append, List.nil_append] at hO; subst hO; have hl29 := advT_len hr29)) <;> (refine R_nil ?_))) <;> ((refine thenQ_nrm ?_; (refine W_seq ?_; (refine W_seq ?_; (refine W_rgn ?_; ((refine Ra rfl (X_mv rfl ?_)) <;> (refine Ra rfl (X_nilchk rfl ?_)) <;> (refine Ra rfl (X_faddr rfl ?_)) <;> (refine Ra rfl (X_faddr rfl ?_)) <;> (refine Ra rfl (X_load (lB rfl rfl) ?_)) <;> (refine Ra rfl (X_gtr rfl rfl (fun _ => ?_) (fun _ => ?_))) <;> (refine R_nil ?_))) <;> ((refine thenQ_nrm ?_; (refine W_cond rfl (fun ht => ?_) (fun ht => ?_) <;> (first | exact absurd ht (by decide) | (refine W_seq ?_; (refine W_rgn ?_; ((refine Ra rfl (X_mv rfl ?_)) <;> (refine RaG rfl (xNG (take_ok lo hs (by assumption) (by decide)) rfl (pB rfl Pick.nil) (fun r37 Z37 o37 hz37 hq O2 hO => ?_) (fun _ Zp op hzp hq O2 hO => (by obtain ⟨ap, tp, rfl, rfl, hrp⟩ := hq; simp only [List.cons_append, List.nil_append] at hO; subst hO; exact (by (repeat (first | refine thenQ_pan ?_ | refine blockQ_pan ?_)); refine fnG_pan ?_; exact Upd.has (L := [rdB w k vv s b _ _]) (hB rfl Has.nil) ⟨_, _, rfl, rfl, by (first | exact readR_none hrp | (rw [readR_t hS h0 hr29]; (first | (obtain rfl : cp = true := hcp.2 (by omega); (first | exact readK_n1 hrp | exact readK_n2 hr37 hrp | (rw [readK_t hr37 hn39]; (first | exact argR_n hS39 (by assumption) hrp | (rw [argR_k hS39 (by assumption) hr47]; first | exact argK_n1 hrp | exact argK_n2 he49 hrp))))) | (obtain rfl : cp = false := (by cases cp; rfl; exact absurd (hcp.1 rfl) (by omega)); rw [readK_f (by rw [hS29.head (by rw [he45]; decide), he45]; decide)]; (first | exact argR_n hS29 (by assumption) hrp | (rw [argR_k hS29 (by assumption) hr47]; first | exact argK_n1 hrp | exact argK_n2 he49 hrp))))))⟩)))); (obtain ⟨a37, t37, L37, rfl, hS37, hr37⟩ := hq; simp only [List.cons_append, List.nil_append] at hO; subst hO; have hl37 := takeT_len hr37)) <;> (refine R_nil ?_))) <;> ((refine thenQ_nrm ?_; (refine W_rgn ?_; ((refine Ra rfl (X_mv rfl ?_)) <;> (refine RaG rfl (xNG (number_ok lo hs (by assumption)) rfl (pB rfl Pick.nil) (fun r39 Z39 o39 hz39 hq O2 hO => ?_) (fun _ Zp op hzp hq O2 hO => (by obtain ⟨ap, tp, rfl, rfl, hrp⟩ := hq; simp only [List.cons_append, List.nil_append] at hO; subst hO; exact (by (repeat (first | refine thenQ_pan ?_ | refine blockQ_pan ?_)); refine fnG_pan ?_; exact Upd.has (L := [rdB w k vv s b _ _]) (hB rfl Has.nil) ⟨_, _, rfl, rfl, by (first | exact readR_none hrp | (rw [readR_t hS h0 hr29]; (first | (obtain rfl : cp = true := hcp.2 (by omega); (first | exact readK_n1 hrp | exact readK_n2 hr37 hrp | (rw [readK_t hr37 hn39]; (first | exact argR_n hS39 (by assumption) hrp | (rw [argR_k hS39 (by assumption) hr47]; first | exact argK_n1 hrp | exact argK_n2 he49 hrp))))) | (obtain rfl : cp = false := (by cases cp; rfl; exact absurd (hcp.1 rfl) (by omega)); rw [readK_f (by rw [hS29.head (by rw [he45]; decide), he45]; decide)]; (first | exact argR_n hS29 (by assumption) hrp | (rw [argR_k hS29 (by assumption) hr47]; first | exact argK_n1 hrp | exact argK_n2 he49 hrp))))))⟩)))); (obtain ⟨a39, t39, L39, rfl, hS39, hr39⟩ := hq; simp only [List.cons_append, List.nil_append] at hO; subst hO; obtain ⟨n39, rfl, hn39⟩ := hr39; have hl39 := numT_len hn39)) <;> (refine Ra rfl (X_faddr rfl ?_)) <;> (refine Rn (xSB rfl rfl rfl rfl rfl ?_)) <;> (refine R_nil ?_)))))) | (refine W_skip ?_)))))) <;> ((refine thenQ_nrm ?_; (refine W_seq ?_; (refine W_seq ?_; (refine W_rgn ?_; ((refine Ra rfl (X_mv rfl ?_)) <;> (refine Ra rfl (X_nilchk rfl ?_)) <;> (refine Ra rfl (X_faddr rfl ?_)) <;> (refine Ra rfl (X_load (lB rfl rfl) ?_)) <;> (refine Ra rfl (xEqL rfl rfl (fun he45 => ?_) (fun he45 => ?_))) <;> (refine R_nil ?_))) <;> ((refine thenQ_nrm ?_; (refine W_cond rfl (fun ht => ?_) (fun ht => ?_) <;> (first | exact absurd ht (by decide) | (refine W_seq ?_; (refine W_rgn ?_; ((refine Ra rfl (X_mv rfl ?_)) <;> (refine RaG rfl (xNG (next2_ok lo hs (by assumption) (by first | assumption | (rename_i e9; rw [e9]; decide) | (intro e9; subst e9; simp at *))) rfl (pB rfl Pick.nil) (fun r47 Z47 o47 hz47 hq O2 hO => ?_) (fun _ Zp op hzp hq O2 hO => (by obtain ⟨ap, tp, rfl, rfl, hrp⟩ := hq; simp only [List.cons_append, List.nil_append] at hO; subst hO; exact (by (repeat (first | refine thenQ_pan ?_ | refine blockQ_pan ?_)); refine fnG_pan ?_; exact Upd.has (L := [rdB w k vv s b _ _]) (hB rfl Has.nil) ⟨_, _, rfl, rfl, by (first | exact readR_none hrp | (rw [readR_t hS h0 hr29]; (first | (obtain rfl : cp = true := hcp.2 (by omega); (first | exact readK_n1 hrp | exact readK_n2 hr37 hrp | (rw [readK_t hr37 hn39]; (first | exact argR_n hS39 (by assumption) hrp | (rw [argR_k hS39 (by assumption) hr47]; first | exact argK_n1 hrp | exact argK_n2 he49 hrp))))) | (obtain rfl : cp = false := (by cases cp; rfl; exact absurd (hcp.1 rfl) (by omega)); rw [readK_f (by rw [hS29.head (by rw [he45]; decide), he45]; decide)]; (first | exact argR_n hS29 (by assumption) hrp | (rw [argR_k hS29 (by assumption) hr47]; first | exact argK_n1 hrp | exact argK_n2 he49 hrp))))))⟩)))); (obtain ⟨a47, t47, L47, rfl, hS47, hr47⟩ := hq; simp only [List.cons_append, List.nil_append] at hO; subst hO; have hl47 := advT_len hr47)) <;> (refine R_nil ?_))) <;> ((refine thenQ_nrm ?_; (refine W_seq ?_; (refine W_rgn ?_; ((refine Ra rfl (X_mv rfl ?_)) <;> (refine RaG rfl (xNG (hE (by assumption) (Fz.le (by assumption) ZC.le) (by omega)) rfl (pB rfl Pick.nil) (fun r49 Z49 o49 hz49 hq O2 hO => ?_) (fun _ Zp op hzp hq O2 hO => (by obtain ⟨ap, tp, rfl, rfl, hrp⟩ := hq; simp only [List.cons_append, List.nil_append] at hO; subst hO; exact (by (repeat (first | refine thenQ_pan ?_ | refine blockQ_pan ?_)); refine fnG_pan ?_; exact Upd.has (L := [rdB w k vv s b _ _]) (hB rfl Has.nil) ⟨_, _, rfl, rfl, by (first | exact readR_none hrp | (rw [readR_t hS h0 hr29]; (first | (obtain rfl : cp = true := hcp.2 (by omega); (first | exact readK_n1 hrp | exact readK_n2 hr37 hrp | (rw [readK_t hr37 hn39]; (first | exact argR_n hS39 (by assumption) hrp | (rw [argR_k hS39 (by assumption) hr47]; first | exact argK_n1 hrp | exact argK_n2 he49 hrp))))) | (obtain rfl : cp = false := (by cases cp; rfl; exact absurd (hcp.1 rfl) (by omega)); rw [readK_f (by rw [hS29.head (by rw [he45]; decide), he45]; decide)]; (first | exact argR_n hS29 (by assumption) hrp | (rw [argR_k hS29 (by assumption) hr47]; first | exact argK_n1 hrp | exact argK_n2 he49 hrp))))))⟩)))); (obtain ⟨a49, t49, L49, rfl, hS49, hr49⟩ := hq; simp only [List.cons_append, List.nil_append] at hO; subst hO; obtain ⟨hl49, ⟨o49, n49, c49, v49, ks49⟩, rfl, ht49, he49⟩ := hr49)) <;> (refine Ra rfl (X_bsliceC (pCons rfl Parts.nil) rfl rfl rfl (fun v50 => ?_))) <;> (refine Ra rfl (X_faddr rfl ?_)) <;> (refine Rn (xSB rfl rfl rfl rfl rfl ?_)) <;> (refine R_nil ?_))) <;> ((refine thenQ_nrm ?_; (refine W_rgn ?_; ((refine Ra rfl (X_mv rfl ?_)) <;> (refine RaG rfl (xNG (take_ok lo hs (by assumption) (by decide)) rfl (pB rfl Pick.nil) (fun r53 Z53 o53 hz53 hq O2 hO => ?_) (fun _ Zp op hzp hq O2 hO => (by obtain ⟨ap, tp, rfl, rfl, hrp⟩ := hq; simp only [List.cons_append, List.nil_append] at hO; subst hO; exact (by (repeat (first | refine thenQ_pan ?_ | refine blockQ_pan ?_)); refine fnG_pan ?_; exact Upd.has (L := [rdB w k vv s b _ _]) (hB rfl Has.nil) ⟨_, _, rfl, rfl, by (first | exact readR_none hrp | (rw [readR_t hS h0 hr29]; (first | (obtain rfl : cp = true := hcp.2 (by omega); (first | exact readK_n1 hrp | exact readK_n2 hr37 hrp | (rw [readK_t hr37 hn39]; (first | exact argR_n hS39 (by assumption) hrp | (rw [argR_k hS39 (by assumption) hr47]; first | exact argK_n1 hrp | exact argK_n2 he49 hrp))))) | (obtain rfl : cp = false := (by cases cp; rfl; exact absurd (hcp.1 rfl) (by omega)); rw [readK_f (by rw [hS29.head (by rw [he45]; decide), he45]; decide)]; (first | exact argR_n hS29 (by assumption) hrp | (rw [argR_k hS29 (by assumption) hr47]; first | exact argK_n1 hrp | exact argK_n2 he49 hrp))))))⟩)))); (obtain ⟨a53, t53, L53, rfl, hS53, hr53⟩ := hq; simp only [List.cons_append, List.nil_append] at hO; subst hO; have hl53 := takeT_len hr53)) <;> (refine R_nil ?_))))))))) | (refine W_skip ?_)))))) <;> ((refine thenQ_nrm ?_; (refine W_seq ?_; (refine W_rgn ?_; ((refine Ra rfl (X_load (lBA rfl rfl) ?_)) <;> (refine Rn (xSW rfl rfl rfl rfl ?_)) <;> (refine R_nil ?_))) <;> ((refine thenQ_nrm ?_; (refine W_ret ?_))))))))))))))))))))))
  <;> (refine fnG_ret (rA rfl rfl Res.nil) ?_)
  all_goals
    have hnx : nameI vs t = x := nameI_of hd (by have hi9 : i = vs.length := (by omega); subst hi9; exact hx)
    first
      | (refine uA v50 fun Za hza hfa => Upd.has (L := [rdB w k vv s b _ _]) (hB rfl Has.nil) ⟨_, _, _, rfl, by assumption, ?_, .mk 1 x _ v50 [.mk o49 n49 c49 v49 ks49], rfl, Tr_one hfa ht49 ZC.le, .inl ?_⟩
         · omega
         · rw [readR_t hS h0 hr29, hnx]
           first
             | (obtain rfl : cp = true := hcp.2 (by omega)
                rw [readK_t hr37 hn39, argR_k hS39 (by assumption) hr47, argK_ok he49 hr53]; rfl)
             | (obtain rfl : cp = false := by cases cp; rfl; exact absurd (hcp.1 rfl) (by omega)
                rw [readK_f (by rw [hS29.head (by rw [he45]; decide), he45]; decide), argR_k hS29 (by assumption) hr47, argK_ok he49 hr53]; rfl))
      | (refine Upd.has (L := [rdB w k vv s b _ _]) (hB rfl Has.nil) ⟨_, _, _, rfl, by assumption, ?_, .mk 1 x _ (.slice none 0 0) [], rfl, Tr_none _ _ _ _, ?_⟩
         · omega
         · rw [readR_t hS h0 hr29, hnx]
           first
             | (obtain rfl : cp = true := hcp.2 (by omega)
                rw [readK_t hr37 hn39, argR_no hS39 (by assumption)]
                exact .inl rfl)
             | (obtain rfl : cp = false := by cases cp; rfl; exact absurd (hcp.1 rfl) (by omega)
                by_cases hst : L29.head? = some [64]
                · exact .inr ⟨readK_s hst, hst⟩
                · rw [readK_f hst, argR_no hS29 (by assumption)]
                  exact .inl rfl))
end Go.Proofs.Ytlidnionbofkaaa.Hm.V
