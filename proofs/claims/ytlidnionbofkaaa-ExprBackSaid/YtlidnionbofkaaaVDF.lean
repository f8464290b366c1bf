import Derived.Test.YtlidnionbofkaaaHF
import Derived.Test.YtlidnionbofkaaaA6
namespace Go.Proofs.Ytlidnionbofkaaa.Hm.V
open Go
set_option linter.all false
set_option maxRecDepth 100000
attribute [local irreducible] X XG S R D W Call CallG Upd Rds Rck Sees Res Cel CallP fnQ fnG
section
variable {F : Nat → Option HFn} {lo N : Nat}
def PreQ (F : Nat → Option HFn) (lo N : Nat) : List HC → Tab → Vw → List Pt → (Out → Tab → Vw → List Pt → Prop) → Prop
  | [], A, Z, O, Q => Q .nrm A Z O
  | c :: cs, A, Z, O, Q => W F lo c N A Z O (thenQ (fun A1 Z1 O1 => PreQ F lo N cs A1 Z1 O1 Q) Q)
theorem Pre_nil {A : Tab} {Z : Vw} {O : List Pt} {Q : Out → Tab → Vw → List Pt → Prop} (k : Q .nrm A Z O) : PreQ F lo N [] A Z O Q := k
theorem Pre_cons {c : HC} {cs : List HC} {A : Tab} {Z : Vw} {O : List Pt} {Q : Out → Tab → Vw → List Pt → Prop} (k : W F lo c N A Z O (thenQ (fun A1 Z1 O1 => PreQ F lo N cs A1 Z1 O1 Q) Q)) : PreQ F lo N (c :: cs) A Z O Q := k
unseal W in
theorem PreQ.runs {Q : Out → Tab → Vw → List Pt → Prop} {Z0 : Vw} : ∀ {cs : List HC} {A : Tab} {Z : Vw} {O : List Pt}, PreQ F lo N cs A Z O Q → Z0.le Z → ∀ R σ h, Sl N A σ → Mem lo Z (O ++ R) h → preR (Runs F lo) cs σ h fun out σ' h' => KT lo N R Z0 (Q out) σ' h'
  | [], A, Z, O, q, hz, R, σ, h, hs, m => ⟨A, Z, O, hs, hz, m, q⟩
  | c :: cs, A, Z, O, q, hz, R, σ, h, hs, m => ⟨fun out σ' h' => KT lo N R Z (thenQ (fun A1 Z1 O1 => PreQ F lo N cs A1 Z1 O1 Q) Q out) σ' h', q R σ h hs m, fun o s g k => by
    obtain ⟨A1, Z1, O1, hs1, z1, m1, k⟩ := k
    cases o with
    | nrm => exact PreQ.runs k (hz.trans z1) R s g hs1 m1
    | ret => exact ⟨A1, Z1, O1, hs1, hz.trans z1, m1, k⟩
    | ext id => exact ⟨A1, Z1, O1, hs1, hz.trans z1, m1, k⟩
    | pan v => exact ⟨A1, Z1, O1, hs1, hz.trans z1, m1, k⟩⟩
theorem preR_mono {T : RunT} {Q Q' : PostR} (hq : ∀ o s g, Q o s g → Q' o s g) : ∀ {cs : List HC} {σ : List Value} {h : Heap}, preR T cs σ h Q → preR T cs σ h Q'
  | [], σ, h, k => hq _ _ _ k
  | c :: cs, σ, h, ⟨Q1, q1, k⟩ => ⟨Q1, q1, fun o s g q => thenR_mono (fun s g q => preR_mono hq q) hq o s g (k o s g q)⟩
def finQ (lo : Nat) (rs : List (Nat × Option (Option Nat))) (Q : Rv → Vw → List Pt → Prop) (A2 : Tab) : Out → Tab → Vw → List Pt → Prop
  | .nrm, _, Z, O => ∃ l, Res A2 Z O rs l ∧ Upd lo Z O fun Z' O' => Q (.ret (tupled l)) Z' O'
  | .ret, _, Z, O => ∃ l, Res A2 Z O rs l ∧ Upd lo Z O fun Z' O' => Q (.ret (tupled l)) Z' O'
  | _, _, _, _ => False
theorem finQ_nrm {rs : List (Nat × Option (Option Nat))} {Q : Rv → Vw → List Pt → Prop} {A A2 : Tab} {Z : Vw} {O : List Pt} {l : List Value} (hr : Res A2 Z O rs l) (k : Upd lo Z O fun Z' O' => Q (.ret (tupled l)) Z' O') : finQ lo rs Q A2 .nrm A Z O := ⟨l, hr, k⟩
theorem finQ_ret {rs : List (Nat × Option (Option Nat))} {Q : Rv → Vw → List Pt → Prop} {A A2 : Tab} {Z : Vw} {O : List Pt} {l : List Value} (hr : Res A2 Z O rs l) (k : Upd lo Z O fun Z' O' => Q (.ret (tupled l)) Z' O') : finQ lo rs Q A2 .ret A Z O := ⟨l, hr, k⟩
def postQ (F : Nat → Option HFn) (lo : Nat) (d : DFn) (cs : List Value) (Q : Rv → Vw → List Pt → Prop) : Out → Tab → Vw → List Pt → Prop
  | .ext _, _, _, _ => False
  | .pan v, A, Z, O => W F lo d.dbody d.dn ((d.drec, v) :: argsA 0 cs) Z O (finQ lo d.res Q A)
  | _, A, Z, O => W F lo d.dbody d.dn ((d.drec, .nilIface) :: argsA 0 cs) Z O (finQ lo d.res Q A)
theorem postQ_pan {d : DFn} {cs : List Value} {Q : Rv → Vw → List Pt → Prop} {v : Value} {A : Tab} {Z : Vw} {O : List Pt} (k : W F lo d.dbody d.dn ((d.drec, v) :: argsA 0 cs) Z O (finQ lo d.res Q A)) : postQ F lo d cs Q (.pan v) A Z O := k
theorem postQ_ret {d : DFn} {cs : List Value} {Q : Rv → Vw → List Pt → Prop} {A : Tab} {Z : Vw} {O : List Pt} (k : W F lo d.dbody d.dn ((d.drec, .nilIface) :: argsA 0 cs) Z O (finQ lo d.res Q A)) : postQ F lo d cs Q .ret A Z O := k
theorem postQ_nrm {d : DFn} {cs : List Value} {Q : Rv → Vw → List Pt → Prop} {A : Tab} {Z : Vw} {O : List Pt} (k : W F lo d.dbody d.dn ((d.drec, .nilIface) :: argsA 0 cs) Z O (finQ lo d.res Q A)) : postQ F lo d cs Q .nrm A Z O := k
def dfnQ (F : Nat → Option HFn) (lo : Nat) (d : DFn) (Q : Rv → Vw → List Pt → Prop) : Out → Tab → Vw → List Pt → Prop
  | .ret, A, Z, O => ∃ l, Res A Z O d.res l ∧ Upd lo Z O fun Z' O' => Q (.ret (tupled l)) Z' O'
  | .nrm, A, Z, O => ∃ cs, evsA A d.caps = some cs ∧ W F lo d.post d.ntmps ((d.tmp, .func (.func d.clo) ⟨[]⟩ ⟨cs⟩) :: A) Z O (postQ F lo d cs Q)
  | _, _, _, _ => False
theorem dfn_ret {d : DFn} {Q : Rv → Vw → List Pt → Prop} {A : Tab} {Z : Vw} {O : List Pt} {l : List Value} (hr : Res A Z O d.res l) (k : Upd lo Z O fun Z' O' => Q (.ret (tupled l)) Z' O') : dfnQ F lo d Q .ret A Z O := ⟨l, hr, k⟩
theorem dfn_nrm {d : DFn} {Q : Rv → Vw → List Pt → Prop} {A : Tab} {Z : Vw} {O : List Pt} {cs : List Value} (hc : evsA A d.caps = some cs) (k : W F lo d.post d.ntmps ((d.tmp, .func (.func d.clo) ⟨[]⟩ ⟨cs⟩) :: A) Z O (postQ F lo d cs Q)) : dfnQ F lo d Q .nrm A Z O := ⟨cs, hc, k⟩
unseal W CallG Upd Res in
theorem DfnG {k : Nat} {fn : HFn} {d : DFn} {vs : List Value} {Z : Vw} {O : List Pt} {Q : Rv → Vw → List Pt → Prop} (hF : F k = some fn) (hs : fn.sem = some (.dfn d)) (hr : (d.res.all fun r => r.2.isSome) = true) (hl : Nat.ble vs.length d.ntmps = true) (ht : Nat.blt d.tmp d.ntmps = true) (hc : Nat.ble d.caps.length d.dn = true) (hd : Nat.blt d.drec d.dn = true)
    (hb : PreQ F lo d.ntmps d.pres (argsA 0 vs) Z O (dfnQ F lo d Q)) : CallG F lo k vs Z O Q := by
  intro R h m
  refine CallsR.dfn hF hs ⟨hr, preR_mono ?_ (hb.runs (.refl _) R _ h (Sl.args (Nat.le_of_ble_eq_true hl)) m)⟩
  intro o s g q
  obtain ⟨A1, Z1, O1, hs1, z1, m1, q⟩ := q
  have hfin : ∀ {A2 : Tab} {s2 : List Value} {v : Value} {Z2 : Vw} {O2 : List Pt} {cs : List Value} {g2 : Heap}, d.caps.map (ev s) = cs → Sl d.ntmps A2 s2 → Z1.le Z2 → Mem lo Z2 (O2 ++ R) g2 → W F lo d.dbody d.dn ((d.drec, v) :: argsA 0 cs) Z2 O2 (finQ lo d.res Q A2) →
      Lf (Runs F lo) d.dbody (dslots d s v) g2 (finR d s2 fun r h' => ∃ Z' O', Z.le Z' ∧ Mem lo Z' (O' ++ R) h' ∧ Q r Z' O') := by
    intro A2 s2 v Z2 O2 cs g2 hcs hs2 z2 m2 hw
    subst hcs
    have hln : (d.caps.map (ev s)).length ≤ d.dn := by rw [List.length_map]; exact Nat.le_of_ble_eq_true hc
    have hsl := Sl.put (Sl.args hln) (d := some d.drec) (v := v) (by simpa [dlt] using hd)
    simp only [putA, putD, setS_eq] at hsl
    have hsl2 : Sl d.dn ((d.drec, v) :: argsA 0 (d.caps.map (ev s))) (dslots d s v) := by
      unfold dslots
      rw [List.length_map] at hsl
      exact hsl
    refine ⟨_, hw R _ g2 hsl2 m2, fun o3 s3 g3 q3 => ?_⟩
    obtain ⟨A3, Z3, O3, hs3, z3, m3, q3⟩ := q3
    cases o3 with
    | nrm =>
      obtain ⟨l, hres, ku⟩ := q3
      obtain ⟨Z4, O4, z4, m4, k4⟩ := ku R g3 m3
      exact ⟨l, hres _ _ _ _ _ hs2 m3, Z4, O4, z1.trans (z2.trans (z3.trans z4)), m4, k4⟩
    | ret =>
      obtain ⟨l, hres, ku⟩ := q3
      obtain ⟨Z4, O4, z4, m4, k4⟩ := ku R g3 m3
      exact ⟨l, hres _ _ _ _ _ hs2 m3, Z4, O4, z1.trans (z2.trans (z3.trans z4)), m4, k4⟩
    | ext id => exact q3.elim
    | pan v => exact q3.elim
  cases o with
  | ext id => exact q.elim
  | pan v => exact q.elim
  | ret =>
    obtain ⟨l, hres, ku⟩ := q
    obtain ⟨Z2, O2, z2, m2, k4⟩ := ku R g m1
    exact ⟨l, hres _ _ _ _ _ hs1 m1, Z2, O2, z1.trans z2, m2, k4⟩
  | nrm =>
    obtain ⟨cs, hcs, hw⟩ := q
    have hcs := evsA_ok hs1 hcs
    have htm : d.tmp < d.ntmps := by simpa using ht
    have hsl := Sl.put hs1 (d := some d.tmp) (v := .func (.func d.clo) #[] ⟨cs⟩) (by simpa [dlt] using ht)
    simp only [putA, putD, setS_eq] at hsl
    refine ⟨by rw [hs1.1]; exact htm, ?_⟩
    rw [hcs]
    refine ⟨_, hw R _ g hsl m1, fun o2 s2 g2 q2 => ?_⟩
    obtain ⟨A2, Z2, O2, hs2, z2, m2, q2⟩ := q2
    cases o2 with
    | ext id => exact q2.elim
    | pan v => exact hfin hcs hs2 z2 m2 q2
    | nrm => exact hfin hcs hs2 z2 m2 q2
    | ret => exact hfin hcs hs2 z2 m2 q2
unseal CallP Call in
theorem DfnP {k : Nat} {fn : HFn} {d : DFn} {vs : List Value} {Z : Vw} {Q : Value → Vw → Prop} (hF : F k = some fn) (hs : fn.sem = some (.dfn d)) (hr : (d.res.all fun r => r.2.isSome) = true) (hl : Nat.ble vs.length d.ntmps = true) (ht : Nat.blt d.tmp d.ntmps = true) (hc : Nat.ble d.caps.length d.dn = true) (hd : Nat.blt d.drec d.dn = true)
    (hb : PreQ F lo d.ntmps d.pres (argsA 0 vs) Z [] (dfnQ F lo d (noPan fun v Z' O' => O' = [] ∧ Q v Z'))) : CallP F lo k vs Z Q := DfnG hF hs hr hl ht hc hd hb
end
end Go.Proofs.Ytlidnionbofkaaa.Hm.V
