/- Regions whose order is open: in any order the machine does what H does in its own. -/
import Derived.Test.YtbjgnogcjglcoaaHZc
namespace Go.Proofs.Ytbjgnogcjglcoaa.Hm
open Go Go.RowKit
set_option linter.all false
set_option linter.unusedSimpArgs false
/-- What is fixed of a region. -/
structure Reg (P : Program) (lo n0 : Nat) (w0 : World) where
  ops : Array Oper
  l : List HOper
  bef : List (List Nat)
  effs : List Bool
  call : Nat → List Value → Heap → Option (Value × Heap)
  hcall : CallOK P lo n0 w0 call
  hl : compOps P ops ops.toList = some l
  hbef : befOK ops.toList bef = true
  hnames : namesOK l bef effs = true
section
variable {lo n0 : Nat} {w0 : World} {P : Program} (R : Reg P lo n0 w0)
/-- A quiet operation that H has done and the machine has not: done now it would give the same. -/
def Pend (σ : List Value) (hc : Heap) (ρ : Rho) (phi : Nat → Nat) (i : Nat) : Prop :=
  ∃ o, R.l[i]? = some o ∧ (wantedH σ o.guard = false → ∀ d, o.dst = some d → σ.getD d undef = undef) ∧
    (wantedH σ o.guard = true → (o.op.kd = .pur ∨ o.op.kd = .lod) → ∃ v, xop lo σ hc o.op = some (v, hc) ∧ ∀ d, o.dst = some d → d < σ.length → σ.getD d undef = v) ∧
    (wantedH σ o.guard = true → o.op.kd = .alc → ∃ b mk, alcOf σ o.op = some (b, mk) ∧ phi i < hc.n ∧ lo ≤ phi i ∧ ρ (phi i) = none ∧ hc.get (phi i) = some b ∧ ∀ d, o.dst = some d → d < σ.length → σ.getD d undef = mk (phi i))
/-- An operation that makes a block, and is wanted. -/
def WA (σ : List Value) (i : Nat) : Prop := ∃ o, R.l[i]? = some o ∧ o.op.kd = .alc ∧ wantedH σ o.guard = true
structure PInv (ρs : Rho) (hs : Heap) (ws : World) (σf : List Value) (hf : Heap) (X : Nat → Bool) (phi : Nat → Nat) (done : List Nat) (todo : List (Nat × List Nat)) (σ : List Value) (hc : Heap) (a : Act) (w : World) (ρ : Rho) : Prop where
  inv : Inv lo n0 w0 ρ hc w
  ext : Ext ρs ρ hs hc ws w
  len : σ.length = a.tmps.size
  dfr : a.defers = []
  run : drws R.call lo R.l todo σ hc = some (σf, hf)
  sch : schedOK R.ops.toList R.l R.bef R.effs done todo = true
  todoX : ∀ p ∈ todo, X p.1 = false
  doneX : ∀ i ∈ done, X i = false → R.effs.getD i true = false
  sub : ∀ i, X i = true → i ∈ done
  clo : ∀ i, X i = true → ∀ j ∈ R.bef.getD i [], X j = true
  rel : ∀ t, (∀ i ∈ done, X i = false → dstOf R.l i ≠ some t) → VR ρ w (σ.getD t undef) (a.tmps.getD t undef)
  pend : ∀ i ∈ done, X i = false → Pend R σ hc ρ phi i
  inj : ∀ i ∈ done, ∀ j ∈ done, X i = false → X j = false → WA R σ i → WA R σ j → phi i = phi j → i = j
  phis : ∀ i ∈ done, X i = false → WA R σ i → hs.n ≤ phi i
  quiet : ∀ i ∈ done, R.effs.getD i true = false → kdOf R.l i ≠ .eff ∧ ∀ t ∈ nameOf R.l i, dstOf R.l i ≠ some t
  topo : ∀ i ∈ done, ∀ j ∈ R.bef.getD i [], j ∈ done
  bnd : ∀ i ∈ done, i < R.l.length
variable {R}
theorem names_cond {i j d : Nat} (hi : i < R.l.length) (hj : j < R.l.length) (hne : i ≠ j) (hd : dstOf R.l j = some d) : dstOf R.l i ≠ some d ∧ (d ∈ nameOf R.l i → j ∈ R.bef.getD i [] ∨ (i ∈ R.bef.getD j [] ∧ R.effs.getD j true = true)) := by
  have h := R.hnames
  unfold namesOK at h
  rw [List.all_eq_true] at h
  have h1 := h i (by simpa using hi)
  rw [List.all_eq_true] at h1
  have h2 := h1 j (by simpa using hj)
  rw [hd] at h2
  simp only [Bool.or_eq_true, Bool.and_eq_true, beq_iff_eq, bne_iff_ne, ne_eq, Bool.not_eq_true', List.contains_iff_mem] at h2
  rcases h2 with h2 | ⟨h3, h4⟩
  · exact absurd h2 hne
  · refine ⟨h3, fun hm => ?_⟩
    rcases h4 with (h4 | h4) | h4
    · rw [← Bool.not_eq_true, List.contains_iff_mem] at h4; exact absurd hm h4
    · exact .inl h4
    · exact .inr h4
theorem sched_cons {done : List Nat} {i : Nat} {js : List Nat} {rest : List (Nat × List Nat)} (h : schedOK R.ops.toList R.l R.bef R.effs done ((i, js) :: rest) = true) :
    i < R.l.length ∧ i ∉ done ∧ (∀ j ∈ R.bef.getD i [], j ∈ done) ∧ (R.effs.getD i true = true ∨ (js = [] ∧ kdOf R.l i ≠ .eff ∧ ∀ t ∈ nameOf R.l i, dstOf R.l i ≠ some t)) ∧
    (R.effs.getD i true = true → ∀ p ∈ rest, i ∈ R.bef.getD p.1 []) ∧ (R.effs.getD i true = true → ∀ j ∈ done, kdOf R.l j ≠ .lod ∨ R.effs.getD j true = true ∨ j ∈ R.bef.getD i [] ∨ j ∈ js) ∧
    schedOK R.ops.toList R.l R.bef R.effs (i :: done) rest = true := by
  simp only [schedOK, Bool.and_eq_true, Bool.or_eq_true, decide_eq_true_eq, Bool.not_eq_true', List.all_eq_true, List.contains_iff_mem, List.isEmpty_iff, bne_iff_ne, ne_eq] at h
  obtain ⟨⟨⟨⟨⟨⟨h1, h2⟩, h3⟩, h4⟩, h5⟩, h6⟩, h7⟩ := h
  refine ⟨h1, fun hm => ?_, h3, ?_, fun he p hp => ?_, fun he j hj => ?_, h7⟩
  · rw [← Bool.not_eq_true, List.contains_iff_mem] at h2; exact h2 hm
  · rcases h4 with h4 | ⟨⟨h4, h8⟩, h9⟩
    · exact .inl h4
    · refine .inr ⟨h4, h8, fun t ht he => ?_⟩
      rw [List.any_eq_false] at h9
      exact h9 t ht (by simp [he])
  · rcases h5 with h5 | h5
    · rw [he] at h5; cases h5
    · exact h5 p hp
  · rcases h6 with h6 | h6
    · rw [he] at h6; cases h6
    · rcases h6 j hj with ((h6 | h6) | h6) | h6
      · exact .inl h6
      · exact .inr (.inl h6)
      · exact .inr (.inr (.inl h6))
      · exact .inr (.inr (.inr h6))
theorem drws_cons {i : Nat} {js : List Nat} {rest : List (Nat × List Nat)} {σ σf : List Value} {hc hf : Heap} (h : drws R.call lo R.l ((i, js) :: rest) σ hc = some (σf, hf)) :
    ∃ o σ1 h1, R.l[i]? = some o ∧ step1 R.call lo o σ hc = some (σ1, h1) ∧ recheck lo R.l σ1 h1 js = true ∧ drws R.call lo R.l rest σ1 h1 = some (σf, hf) := by
  simp only [drws] at h
  split at h
  · rename_i o ho
    split at h
    · rename_i σ1 h1 hs
      split at h
      · rename_i hr; exact ⟨o, σ1, h1, ho, hs, hr, h⟩
      · cases h
    · cases h
  · cases h
theorem nameOf_some {i : Nat} {o : HOper} (h : R.l[i]? = some o) : nameOf R.l i = o.names := by simp [nameOf, h]
theorem dstOf_some {i : Nat} {o : HOper} (h : R.l[i]? = some o) : dstOf R.l i = o.dst := by simp [dstOf, h]
theorem kdOf_some {i : Nat} {o : HOper} (h : R.l[i]? = some o) : kdOf R.l i = o.op.kd := by simp [kdOf, h]
theorem reads_names {o : HOper} {x : Operand} {t : Nat} (hx : x ∈ o.op.reads) (ht : x = .tmp t) : t ∈ o.names := List.mem_append.2 (.inl (mem_tmps hx ht))
theorem guard_names {o : HOper} {t : Nat} {b : Bool} (h : o.guard = some (t, b)) : t ∈ o.names := by simp [HOper.names, h]
/-- Slots that no name of the operation's touches: it reads as before. -/
theorem ev_same {o : HOper} {σ σ1 : List Value} (h : ∀ t ∈ o.names, σ1.getD t undef = σ.getD t undef) : ∀ x ∈ o.op.reads, ev σ1 x = ev σ x := by
  intro x hx
  cases x with
  | tmp t => exact h t (reads_names hx rfl)
  | const v => rfl
  | global g => rfl
  | func f => rfl
/-- A pending operation stays one where its own slots stay, and what it made. -/
theorem Pend.keep {σ σ1 : List Value} {hc h1 : Heap} {ρ ρ1 : Rho} {phi phi1 : Nat → Nat} {i : Nat} (hp : Pend R σ hc ρ phi i) (hl : σ1.length = σ.length) (hphi : phi1 i = phi i)
    (hn : ∀ t ∈ nameOf R.l i, σ1.getD t undef = σ.getD t undef) (hd : ∀ d, dstOf R.l i = some d → σ1.getD d undef = σ.getD d undef)
    (hx : ∀ o v, R.l[i]? = some o → wantedH σ1 o.guard = true → (o.op.kd = .pur ∨ o.op.kd = .lod) → xop lo σ hc o.op = some (v, hc) → (∀ d, o.dst = some d → d < σ1.length → σ1.getD d undef = v) → ∃ v2, xop lo σ1 h1 o.op = some (v2, h1) ∧ ∀ d, o.dst = some d → d < σ1.length → σ1.getD d undef = v2)
    (ha : ∀ o, R.l[i]? = some o → o.op.kd = .alc → phi i < hc.n → ρ (phi i) = none → phi i < h1.n ∧ ρ1 (phi i) = none ∧ h1.get (phi i) = hc.get (phi i)) : Pend R σ1 h1 ρ1 phi1 i := by
  obtain ⟨o, ho, p1, p2, p3⟩ := hp
  rw [nameOf_some ho] at hn
  rw [dstOf_some ho] at hd
  have hw : wantedH σ1 o.guard = wantedH σ o.guard := wanted_same (fun t b hg => hn t (guard_names hg)) hl
  refine ⟨o, ho, fun h => fun d hd' => ?_, fun h hk => ?_, fun h hk => ?_⟩
  · rw [hd d hd']; exact p1 (hw ▸ h) d hd'
  · obtain ⟨v, h2, h3⟩ := p2 (hw ▸ h) hk
    exact hx o v ho h hk h2 (fun d hd' hlt => by rw [hd d hd']; exact h3 d hd' (hl ▸ hlt))
  · obtain ⟨b, mk, q1, q2, q3, q4, q5, q6⟩ := p3 (hw ▸ h) hk
    obtain ⟨a1, a2, a3⟩ := ha o ho hk q2 q4
    rw [hphi]
    exact ⟨b, mk, by rw [alcOf_congr (ev_same hn)]; exact q1, a1, q3, a2, a3.trans q5, fun d hd' hlt => by rw [hd d hd']; exact q6 d hd' (hl ▸ hlt)⟩
/-- H goes on over its quiet operations. -/
theorem adv {ρs : Rho} {hs : Heap} {ws : World} {σf : List Value} {hf : Heap} {X : Nat → Bool} {a : Act} {w : World} {ρ : Rho} : ∀ (todo : List (Nat × List Nat)) (phi : Nat → Nat) (done : List Nat) (σ : List Value) (hc : Heap),
    PInv R ρs hs ws σf hf X phi done todo σ hc a w ρ → ∃ phi' done' todo' σ' hc', PInv R ρs hs ws σf hf X phi' done' todo' σ' hc' a w ρ ∧ (∀ i js rest, todo' = (i, js) :: rest → R.effs.getD i true = true)
  | [], phi, done, σ, hc, hP => ⟨phi, done, [], σ, hc, hP, fun _ _ _ e => by cases e⟩
  | (i, js) :: rest, phi, done, σ, hc, hP => by
    by_cases he : R.effs.getD i true = true
    · exact ⟨phi, done, _, σ, hc, hP, fun i2 js2 r2 e => by cases e; exact he⟩
    · have he' : R.effs.getD i true = false := by simpa using he
      obtain ⟨s1, s2, s3, s4, s5, s6, s7⟩ := sched_cons hP.sch
      obtain ⟨hjs, hkd, hnd⟩ := s4.resolve_left he
      obtain ⟨o, σ1, h1, ho, hst, hrc, hrun⟩ := drws_cons hP.run
      rw [kdOf_some ho] at hkd
      rw [nameOf_some ho, dstOf_some ho] at hnd
      have hXi : X i = false := hP.todoX (i, js) (by simp)
      -- what the step was
      have hstep : (∃ v, σ1 = putD σ o.dst v) ∧ σ1.length = σ.length ∧ (h1 = hc ∨ ∃ b, h1 = hc.pushB b ∧ (∀ cs c, b ≠ .row cs (some c))) ∧ Pend R σ1 h1 ρ (fun x => if x = i then hc.n else phi x) i := by
        unfold step1 at hst
        have hsame : ∀ v, ∀ t ∈ o.names, (putD σ o.dst v).getD t undef = σ.getD t undef := fun v t ht => putD_ne (fun e => hnd t ht e)
        have hw : ∀ v, wantedH (putD σ o.dst v) o.guard = wantedH σ o.guard := fun v => wanted_same (fun t b hg => hsame v t (guard_names hg)) (putD_len _ _ _)
        split at hst
        · rename_i hwt
          split at hst
          · rename_i v h2 hx
            cases hst
            have hx2 : xop lo σ hc o.op = some (v, h1) := by
              revert hx hkd
              cases o.op <;> intro hkd hx <;> first | exact hx | exact absurd rfl hkd
            have hk3 : o.op.kd = .pur ∨ o.op.kd = .lod ∨ o.op.kd = .alc := by cases hk : o.op.kd <;> simp_all
            have dstv : ∀ d, o.dst = some d → d < (putD σ o.dst v).length → (putD σ o.dst v).getD d undef = v := fun d hd hlt => by
              rw [putD_len] at hlt
              rw [hd]; exact getD_set_eq hlt
            have hread : ∀ x ∈ o.op.reads, ev (putD σ o.dst v) x = ev σ x := ev_same (hsame v)
            by_cases hal : o.op.kd = .alc
            · rw [xop_alc hal] at hx2
              obtain ⟨p, hp, e2⟩ := Option.map_eq_some_iff.1 hx2
              obtain ⟨b, mk⟩ := p
              cases e2
              have hbn : ∀ cs c, b ≠ .row cs (some c) := by
                intro cs c e
                subst e
                revert hp
                cases o.op <;> simp only [alcOf] <;> intro hp <;> (repeat' (first | (cases hp; done) | (obtain ⟨_, _, e3⟩ := Option.map_eq_some_iff.1 hp; cases e3; done) | split at hp))
              refine ⟨⟨_, rfl⟩, putD_len _ _ _, .inr ⟨b, rfl, hbn⟩, o, ho, fun h => ?_, fun h hk => ?_, fun h hk => ?_⟩
              · rw [hw] at h; rw [h] at hwt; cases hwt
              · rcases hk with hk | hk <;> rw [hal] at hk <;> cases hk
              · refine ⟨b, mk, by rw [alcOf_congr hread]; exact hp, ?_, ?_, ?_, ?_, ?_⟩
                · simp only [if_true]; show hc.n < hc.n + 1; omega
                · simp only [if_true]; exact hP.inv.lon
                · simp only [if_true]; exact hP.inv.none_n
                · simp only [if_true]; rw [get_pushB, if_pos rfl]
                · simp only [if_true]; exact dstv
            · have hpl : o.op.kd = .pur ∨ o.op.kd = .lod := by rcases hk3 with h | h | h <;> simp_all
              have := xop_same hpl hx2
              subst this
              refine ⟨⟨_, rfl⟩, putD_len _ _ _, .inl rfl, o, ho, fun h => ?_, fun h hk => ?_, fun h hk => absurd hk hal⟩
              · rw [hw] at h; rw [h] at hwt; cases hwt
              · exact ⟨v, by rw [xop_congr hread]; exact hx2, dstv⟩
          · cases hst
        · rename_i hwt
          cases hst
          refine ⟨⟨_, rfl⟩, putD_len _ _ _, .inl rfl, o, ho, fun h d hd => ?_, fun h => ?_, fun h => ?_⟩
          · rw [hd]
            by_cases hlt : d < σ.length
            · exact getD_set_eq hlt
            · simp only [putD, List.getD_eq_getElem?_getD]
              rw [List.getElem?_eq_none (by simp; omega)]; rfl
          · rw [hw] at h; exact absurd h hwt
          · rw [hw] at h; exact absurd h hwt
      obtain ⟨⟨v, hσ1⟩, hlen1, hheap, hpi⟩ := hstep
      have hgetm : ∀ b x, hc.get b = some x → h1.get b = some x := by
        rcases hheap with rfl | ⟨b0, rfl, _⟩
        · exact fun _ _ h => h
        · intro b x hb; rw [get_pushB, if_neg (Nat.ne_of_lt (Heap.get_lt hb))]; exact hb
      have hclm : ∀ c x, hc.cl c = some x → h1.cl c = some x := by
        rcases hheap with rfl | ⟨b0, rfl, _⟩ <;> exact fun _ _ h => h
      have hnle : hc.n ≤ h1.n := by
        rcases hheap with rfl | ⟨b0, rfl, _⟩
        · exact Nat.le_refl _
        · show hc.n ≤ hc.n + 1; omega
      have hinv1 : Inv lo n0 w0 ρ h1 w := by
        rcases hheap with rfl | ⟨b0, rfl, hb0⟩
        · exact hP.inv
        · exact hP.inv.pushB hb0
      have hext1 : Ext ρ ρ hc h1 w w := ⟨fun _ _ e => e, fun _ => Nat.le_refl _, hnle, fun b hb e => ⟨e, by
        rcases hheap with rfl | ⟨b0, rfl, _⟩
        · rfl
        · rw [get_pushB, if_neg (Nat.ne_of_lt hb)]⟩⟩
      have hdsti : dstOf R.l i = o.dst := dstOf_some ho
      -- an elder pending operation does not name the slot
      have hold : ∀ p ∈ done, X p = false → (∀ t ∈ nameOf R.l p, σ1.getD t undef = σ.getD t undef) ∧ ∀ d, dstOf R.l p = some d → σ1.getD d undef = σ.getD d undef := by
        intro p hp hXp
        have hpi2 : p ≠ i := fun e => s2 (e ▸ hp)
        refine ⟨fun t ht => ?_, fun d hd => ?_⟩
        · rw [hσ1]; refine putD_ne fun e => ?_
          have hc1 := (names_cond (hP.bnd p hp) s1 hpi2 (hdsti.trans e)).2 ht
          rcases hc1 with h | ⟨h, h2⟩
          · exact s2 (hP.topo p hp i h)
          · rw [he'] at h2; cases h2
        · rw [hσ1]; refine putD_ne fun e => ?_
          exact (names_cond (hP.bnd p hp) s1 hpi2 (hdsti.trans e)).1 hd
      have back : ∀ q ∈ done, X q = false → WA R σ1 q → WA R σ q ∧ phi q < hc.n := by
          rintro q hq hXq ⟨oq, hoq, hkq, hwq⟩
          have hw2 : wantedH σ oq.guard = true := by
            rw [← hwq]; exact (wanted_same (fun t b hg => ((hold q hq hXq).1 t (by rw [nameOf_some hoq]; exact guard_names hg))) hlen1).symm
          refine ⟨⟨oq, hoq, hkq, hw2⟩, ?_⟩
          obtain ⟨o2, ho2, _, _, p3⟩ := hP.pend q hq hXq
          rw [hoq] at ho2; cases ho2
          obtain ⟨_, _, _, h5, _⟩ := p3 hw2 hkq
          exact h5
      have hP1 : PInv R ρs hs ws σf hf X (fun x => if x = i then hc.n else phi x) (i :: done) rest σ1 h1 a w ρ := by
        refine ⟨hinv1, hP.ext.trans hext1, hlen1.trans hP.len, hP.dfr, hrun, s7, fun p hp => hP.todoX p (by simp [hp]), fun j hj hXj => ?_, fun j hj => by simp [hP.sub j hj], hP.clo, fun t ht => ?_, fun j hj hXj => ?_, fun j hj k hk hXj hXk hkj hkk hphi => ?_, fun j hj hXj hwj => ?_, fun j hj hej => ?_, fun j hj k hk => ?_, fun j hj => ?_⟩
        · rcases List.mem_cons.1 hj with rfl | hj
          · exact he'
          · exact hP.doneX j hj hXj
        · have h2 : dstOf R.l i ≠ some t := ht i (by simp) hXi
          rw [hσ1, putD_ne (fun e => h2 (hdsti.trans e))]
          exact hP.rel t fun j hj hXj => ht j (by simp [hj]) hXj
        · rcases List.mem_cons.1 hj with rfl | hj
          · exact hpi
          · have hji : j ≠ i := fun e => s2 (e ▸ hj)
            obtain ⟨q1, q2⟩ := hold j hj hXj
            refine (hP.pend j hj hXj).keep hlen1 (by simp [hji]) q1 q2 (fun o2 v2 ho2 hw2 hk2 hx2 hd2 => ⟨v2, ?_, hd2⟩) (fun o2 ho2 hk2 hlt hρ => ⟨Nat.lt_of_lt_of_le hlt hnle, hρ, (hext1.keep _ hlt hρ).2⟩)
            rw [xop_congr (ev_same (by rw [← nameOf_some ho2]; exact q1))]
            exact xop_ext hk2 hgetm hclm hx2
        · rcases List.mem_cons.1 hj with rfl | hj1 <;> rcases List.mem_cons.1 hk with rfl | hk1
          · rfl
          · obtain ⟨_, h5⟩ := back k hk1 hXk hkk
            have hki : k ≠ j := fun e => s2 (e ▸ hk1)
            simp only [if_true, hki, if_false] at hphi
            omega
          · obtain ⟨_, h5⟩ := back j hj1 hXj hkj
            have hji : j ≠ k := fun e => s2 (e ▸ hj1)
            simp only [if_true, hji, if_false] at hphi
            omega
          · have hji : j ≠ i := fun e => s2 (e ▸ hj1)
            have hki : k ≠ i := fun e => s2 (e ▸ hk1)
            simp only [hji, hki, if_false] at hphi
            exact hP.inj j hj1 k hk1 hXj hXk (back j hj1 hXj hkj).1 (back k hk1 hXk hkk).1 hphi
        · rcases List.mem_cons.1 hj with rfl | hj1
          · simp only [if_true]; exact hP.ext.n
          · have hji : j ≠ i := fun e => s2 (e ▸ hj1)
            simp only [hji, if_false]
            exact hP.phis j hj1 hXj (back j hj1 hXj hwj).1
        · rcases List.mem_cons.1 hj with rfl | hj
          · rw [kdOf_some ho, nameOf_some ho, hdsti]; exact ⟨hkd, hnd⟩
          · exact hP.quiet j hj hej
        · rcases List.mem_cons.1 hj with rfl | hj
          · simp [s3 k hk]
          · simp [hP.topo j hj k hk]
        · rcases List.mem_cons.1 hj with rfl | hj
          · exact s1
          · exact hP.bnd j hj
      exact adv rest _ _ _ _ hP1
def addX (X : Nat → Bool) (i : Nat) : Nat → Bool := fun x => if x = i then true else X x
theorem addX_ne {X : Nat → Bool} {i j : Nat} (h : addX X i j = false) : j ≠ i ∧ X j = false := by
  unfold addX at h
  split at h
  · cases h
  · exact ⟨by assumption, h⟩
theorem addX_true {X : Nat → Bool} {i j : Nat} (h : addX X i j = true) : j = i ∨ X j = true := by
  unfold addX at h
  split at h
  · exact .inl (by assumption)
  · exact .inr h
theorem addX_of {X : Nat → Bool} {i j : Nat} (h : X j = true) : addX X i j = true := by
  unfold addX; split <;> simp_all
theorem addX_self (X : Nat → Bool) (i : Nat) : addX X i i = true := by simp [addX]
section steps
variable {ρs : Rho} {hs : Heap} {ws : World} {σf : List Value} {hf : Heap} {X : Nat → Bool} {phi : Nat → Nat} {done : List Nat} {todo : List (Nat × List Nat)} {σ : List Value} {hc : Heap} {a : Act} {w : World} {ρ : Rho}
/-- What a ready operation names is told. -/
theorem rel_names (hP : PInv R ρs hs ws σf hf X phi done todo σ hc a w ρ) {i : Nat} (hi : i < R.l.length) (hr : ∀ j ∈ R.bef.getD i [], X j = true) (hq : i ∈ done → ∀ t ∈ nameOf R.l i, dstOf R.l i ≠ some t) : ∀ t ∈ nameOf R.l i, VR ρ w (σ.getD t undef) (a.tmps.getD t undef) := by
  intro t ht
  refine hP.rel t fun j hj hXj hd => ?_
  by_cases e : i = j
  · subst e; exact hq hj t ht hd
  · rcases (names_cond hi (hP.bnd j hj) e hd).2 ht with h | ⟨h, h2⟩
    · rw [hr j h] at hXj; cases hXj
    · rw [hP.doneX j hj hXj] at h2; cases h2
theorem oper_at {i : Nat} (hi : i < R.l.length) : ∃ o ho, R.ops[i]? = some o ∧ R.l[i]? = some ho ∧ compOper P R.ops o = some ho := by
  obtain ⟨h1, h2⟩ := compOps_get R.hl
  have hlt : i < R.ops.size := by rw [h1] at hi; simpa using hi
  obtain ⟨ho, k1, k2⟩ := h2 i R.ops[i] (by simp [hlt])
  exact ⟨R.ops[i], ho, by simp [hlt], k1, k2⟩
theorem rel_done (hP : PInv R ρs hs ws σf hf X phi done todo σ hc a w ρ) {i t : Nat} (ht : ∀ j ∈ done, addX X i j = false → dstOf R.l j ≠ some t) (hne : dstOf R.l i ≠ some t) : VR ρ w (σ.getD t undef) (a.tmps.getD t undef) :=
  hP.rel t fun j hj hXj => by
    by_cases e : j = i
    · subst e; exact hne
    · exact ht j hj (by simp [addX, e, hXj])
/-- The machine does an operation that H has done before. -/
theorem step_pend (hP : PInv R ρs hs ws σf hf X phi done todo σ hc a w ρ) {i : Nat} (hi : i ∈ done) (hXi : X i = false) (hr : ∀ j ∈ R.bef.getD i [], X j = true) {K : Act → World → Prop} {Q : Exit → Act → World → Prop}
    (hK : ∀ a' w' ρ', PInv R ρs hs ws σf hf (addX X i) phi done todo σ hc a' w' ρ' → K a' w') : wpOp P R.ops Q i K a w := by
  have hlt := hP.bnd i hi
  obtain ⟨o, ho, e1, e2, hco⟩ := oper_at hlt
  obtain ⟨hq1, hq2⟩ := hP.quiet i hi (hP.doneX i hi hXi)
  have hrel := rel_names hP hlt hr (fun _ => hq2)
  rw [nameOf_some e2] at hrel
  obtain ⟨hcop, hdst, _⟩ := compOper_inv hco
  have hdi : dstOf R.l i = o.dst := (dstOf_some e2).trans hdst
  have hw := wanted_eq hco hP.len (fun t b hg => hrel t (guard_names hg))
  obtain ⟨o2, ho2, p1, p2, p3⟩ := hP.pend i hi hXi
  rw [e2] at ho2; cases ho2
  -- the next state
  have next : ∀ (ρ' : Rho) (w' : World) (v' : Value), Inv lo n0 w0 ρ' hc w' → (∀ b x, ρ b = some x → ρ' b = some x) → (∀ r, rowSize w r ≤ rowSize w' r) → Ext ρs ρ' hs hc ws w' → (∀ d, o.dst = some d → d < σ.length → VR ρ' w' (σ.getD d undef) v') →
      (∀ j ∈ done, addX X i j = false → WA R σ j → ρ (phi j) = none → ρ' (phi j) = none) → PInv R ρs hs ws σf hf (addX X i) phi done todo σ hc (a.put o.dst v') w' ρ' := by
    intro ρ' w' v' hI hle hsz hext hv hnone
    refine ⟨hI, hext, by rw [put_size]; exact hP.len, by rw [put_dfr]; exact hP.dfr, hP.run, hP.sch, fun p hp => ?_, fun j hj hXj => hP.doneX j hj (addX_ne hXj).2, fun j hj => ?_, fun j hj k hk => ?_, fun t ht => ?_, fun j hj hXj => ?_, fun j hj k hk hXj hXk hwj hwk hphi => hP.inj j hj k hk (addX_ne hXj).2 (addX_ne hXk).2 hwj hwk hphi, fun j hj hXj hwj => hP.phis j hj (addX_ne hXj).2 hwj, hP.quiet, hP.topo, hP.bnd⟩
    · have h1 := hP.todoX p hp
      unfold addX
      split
      · rename_i e
        have : (schedOK R.ops.toList R.l R.bef R.effs done todo) = true := hP.sch
        exfalso
        have key : ∀ (todo : List (Nat × List Nat)) (dn : List Nat), i ∈ dn → schedOK R.ops.toList R.l R.bef R.effs dn todo = true → ∀ p ∈ todo, p.1 ≠ i := by
          intro todo
          induction todo with
          | nil => intro dn _ _ p hp; cases hp
          | cons q rest ih =>
            intro dn hdn hs p hp
            obtain ⟨q1, q2⟩ := q
            obtain ⟨_, s2, _, _, _, _, s7⟩ := sched_cons hs
            rcases List.mem_cons.1 hp with rfl | hp
            · intro e
              have e' : q1 = i := e
              exact s2 (e' ▸ hdn)
            · exact ih (q1 :: dn) (by simp [hdn]) s7 p hp
        exact key todo done hi this p hp e
      · exact h1
    · rcases addX_true hj with rfl | hj
      · exact hi
      · exact hP.sub j hj
    · rcases addX_true hj with rfl | hj
      · exact addX_of (hr k hk)
      · exact addX_of (hP.clo j hj k hk)
    · by_cases hd : dstOf R.l i = some t
      · rw [hdi] at hd
        rw [hd]
        by_cases htl : t < σ.length
        · rw [put_eq (by rw [← hP.len]; exact htl)]
          exact hv t hd htl
        · have h1 : σ.getD t undef = undef := by simp only [List.getD_eq_getElem?_getD]; rw [List.getElem?_eq_none (by omega)]; rfl
          have h2 : (a.put (some t) v').tmps.getD t undef = undef := by
            have : ¬ t < (a.put (some t) v').tmps.size := by rw [put_size, ← hP.len]; exact htl
            simp only [Array.getD_eq_getD_getElem?]; rw [Array.getElem?_eq_none (by omega)]; rfl
          rw [h1, h2]; exact VR.undef _ _
      · rw [put_ne (fun e => hd (hdi.trans e))]
        exact (rel_done hP ht hd).mono hle hsz
    · obtain ⟨hji, hXj'⟩ := addX_ne hXj
      obtain ⟨oj, hoj, b1, b2, b3⟩ := hP.pend j hj hXj'
      refine ⟨oj, hoj, b1, b2, fun hwj hkj => ?_⟩
      obtain ⟨b, mk, c1, c2, c3, c4, c5, c6⟩ := b3 hwj hkj
      exact ⟨b, mk, c1, c2, c3, hnone j hj hXj ⟨oj, hoj, hkj, hwj⟩ c4, c5, c6⟩
  unfold wpOp
  rw [e1]
  simp only [hw]
  by_cases hwt : wantedH σ ho.guard = true
  · rw [if_pos hwt]
    left
    by_cases hal : ho.op.kd = .alc
    · obtain ⟨b, mk, c1, c2, c3, c4, c5, c6⟩ := p3 hwt hal
      obtain ⟨obj, mkR, r1, r2, r3⟩ := alc_names hco a hrel c1
      obtain ⟨t1, t2, t3, t4⟩ := hP.inv.tellB c2 c3 c4 c5 r2
      unfold Oper.wp
      rw [r1]
      refine hK _ _ _ (next _ _ _ t1 t2 t3 ?_ (fun d hd hlt' => ?_) (fun j hj hXj hwj hρj => ?_))
      · refine ⟨fun b x e => t2 _ _ (hP.ext.le _ _ e), fun r => Nat.le_trans (hP.ext.sz r) (t3 r), hP.ext.n, fun b hb e => ?_⟩
        obtain ⟨k1, k2⟩ := hP.ext.keep b hb e
        refine ⟨t4 b (fun e3 => ?_) k1, k2⟩
        have := hP.phis i hi hXi ⟨ho, e2, hal, hwt⟩
        omega
      · rw [c6 d (hdst.trans hd) hlt']
        exact r3 _ _ _ _ (rho_new ρ (phi i) w.heap.size 0)
      · refine t4 _ (fun e => ?_) hρj
        exact (addX_ne hXj).1 (hP.inj j hj i hi (addX_ne hXj).2 hXi hwj ⟨ho, e2, hal, hwt⟩ e)
    · have hpl : ho.op.kd = .pur ∨ ho.op.kd = .lod := by
        rw [kdOf_some e2] at hq1
        cases hk : ho.op.kd <;> simp_all
      obtain ⟨v, x1, x2⟩ := p2 hwt hpl
      have hxo : xoper R.call lo σ hc ho.op = some (v, hc) := by
        revert x1 hpl
        cases ho.op <;> intro hpl x1 <;> first | exact x1 | (rcases hpl with h | h <;> cases h)
      refine oper_names R.hcall hP.inv hco a hrel hxo fun v' w' ρ' k1 k2 k3 => hK _ w' ρ' ?_
      rw [hdst]
      refine next ρ' w' v' k1 k2.le k2.sz (hP.ext.trans k2) (fun d hd hlt' => by rw [x2 d (hdst.trans hd) hlt']; exact k3) (fun j hj hXj hwj hρj => ?_)
      obtain ⟨oj, hoj, hkj, hwj2⟩ := hwj
      obtain ⟨o3, ho3, _, _, b3⟩ := hP.pend j hj (addX_ne hXj).2
      rw [hoj] at ho3; cases ho3
      obtain ⟨_, _, _, c2, _⟩ := b3 hwj2 hkj
      exact (k2.keep _ c2 hρj).1
  · rw [if_neg hwt]
    have hwf : wantedH σ ho.guard = false := by simpa using hwt
    refine hK _ _ _ (next ρ w undef hP.inv (fun _ _ e => e) (fun _ => Nat.le_refl _) hP.ext (fun d hd hlt' => ?_) (fun _ _ _ _ e => e))
    rw [p1 hwf d (hdst.trans hd)]
    exact VR.undef _ _
/-- The machine does the operation that H does next. -/
theorem step_eff {i : Nat} {js : List Nat} {rest : List (Nat × List Nat)} (hP : PInv R ρs hs ws σf hf X phi done ((i, js) :: rest) σ hc a w ρ) (he : R.effs.getD i true = true) (hr : ∀ j ∈ R.bef.getD i [], X j = true) {K : Act → World → Prop} {Q : Exit → Act → World → Prop}
    (hK : ∀ σ1 h1 a' w' ρ', PInv R ρs hs ws σf hf (addX X i) phi (i :: done) rest σ1 h1 a' w' ρ' → K a' w') : wpOp P R.ops Q i K a w := by
  obtain ⟨s1, s2, s3, s4, s5, s6, s7⟩ := sched_cons hP.sch
  obtain ⟨o', σ1, h1, ho', hst, hrc, hrun⟩ := drws_cons hP.run
  obtain ⟨o, ho, e1, e2, hco⟩ := oper_at s1
  have hoo : ho = o' := by rw [e2] at ho'; exact Option.some.inj ho'
  subst hoo
  have hrel := rel_names hP s1 hr (fun hm => absurd hm s2)
  rw [nameOf_some e2] at hrel
  obtain ⟨hcop, hdst, _⟩ := compOper_inv hco
  have hdi : dstOf R.l i = ho.dst := dstOf_some e2
  have hw := wanted_eq hco hP.len (fun t b hg => hrel t (guard_names hg))
  -- the next state
  have next : ∀ (ρ' : Rho) (w' : World) (v v' : Value), σ1 = putD σ ho.dst v → Inv lo n0 w0 ρ' h1 w' → Ext ρ ρ' hc h1 w w' → VR ρ' w' v v' → PInv R ρs hs ws σf hf (addX X i) phi (i :: done) rest σ1 h1 (a.put o.dst v') w' ρ' := by
    intro ρ' w' v v' hσ1 hI hE hV
    have hlen1 : σ1.length = σ.length := by rw [hσ1, putD_len]
    have hold : ∀ p ∈ done, X p = false → (∀ t ∈ nameOf R.l p, σ1.getD t undef = σ.getD t undef) ∧ ∀ d, dstOf R.l p = some d → σ1.getD d undef = σ.getD d undef := by
      intro p hp hXp
      have hpi2 : p ≠ i := fun e => s2 (e ▸ hp)
      refine ⟨fun t ht => ?_, fun d hd => ?_⟩
      · rw [hσ1]; refine putD_ne fun e => ?_
        rcases (names_cond (hP.bnd p hp) s1 hpi2 (hdi.trans e)).2 ht with h | ⟨h, _⟩
        · exact s2 (hP.topo p hp i h)
        · rw [hr p h] at hXp; cases hXp
      · rw [hσ1]; refine putD_ne fun e => ?_
        exact (names_cond (hP.bnd p hp) s1 hpi2 (hdi.trans e)).1 hd
    have back : ∀ q ∈ done, X q = false → WA R σ1 q → WA R σ q := by
      rintro q hq hXq ⟨oq, hoq, hkq, hwq⟩
      refine ⟨oq, hoq, hkq, ?_⟩
      rw [← hwq]; exact (wanted_same (fun t b hg => ((hold q hq hXq).1 t (by rw [nameOf_some hoq]; exact guard_names hg))) hlen1).symm
    have notin : ∀ j ∈ i :: done, addX X i j = false → j ∈ done ∧ X j = false := by
      intro j hj hXj
      obtain ⟨h2, h3⟩ := addX_ne hXj
      exact ⟨(List.mem_cons.1 hj).resolve_left h2, h3⟩
    refine ⟨hI, hP.ext.trans hE, by rw [put_size, hlen1]; exact hP.len, by rw [put_dfr]; exact hP.dfr, hrun, s7, fun p hp => ?_, fun j hj hXj => hP.doneX j (notin j hj hXj).1 (notin j hj hXj).2, fun j hj => ?_, fun j hj k hk => ?_, fun t ht => ?_, fun j hj hXj => ?_,
      fun j hj k hk hXj hXk hwj hwk hphi => hP.inj j (notin j hj hXj).1 k (notin k hk hXk).1 (notin j hj hXj).2 (notin k hk hXk).2 (back j (notin j hj hXj).1 (notin j hj hXj).2 hwj) (back k (notin k hk hXk).1 (notin k hk hXk).2 hwk) hphi,
      fun j hj hXj hwj => hP.phis j (notin j hj hXj).1 (notin j hj hXj).2 (back j (notin j hj hXj).1 (notin j hj hXj).2 hwj), fun j hj hej => ?_, fun j hj k hk => ?_, fun j hj => ?_⟩
    · have h2 := hP.todoX p (by simp [hp])
      unfold addX
      split
      · rename_i e
        exfalso
        have key : ∀ (todo : List (Nat × List Nat)) (dn : List Nat), i ∈ dn → schedOK R.ops.toList R.l R.bef R.effs dn todo = true → ∀ p ∈ todo, p.1 ≠ i := by
          intro todo
          induction todo with
          | nil => intro dn _ _ p hp; cases hp
          | cons q rest ih =>
            intro dn hdn hs p hp
            obtain ⟨q1, q2⟩ := q
            obtain ⟨_, s2, _, _, _, _, s7⟩ := sched_cons hs
            rcases List.mem_cons.1 hp with rfl | hp
            · intro e
              have e' : q1 = i := e
              exact s2 (e' ▸ hdn)
            · exact ih (q1 :: dn) (by simp [hdn]) s7 p hp
        exact key rest (i :: done) (by simp) s7 p hp e
      · exact h2
    · rcases addX_true hj with rfl | hj
      · simp
      · simp [hP.sub j hj]
    · rcases addX_true hj with rfl | hj
      · exact addX_of (hr k hk)
      · exact addX_of (hP.clo j hj k hk)
    · by_cases hd : dstOf R.l i = some t
      · rw [hdi] at hd
        rw [hσ1, ← hdst, hd]
        by_cases htl : t < σ.length
        · rw [put_eq (by rw [← hP.len]; exact htl)]
          simp only [putD]
          rw [getD_set_eq htl]
          exact hV
        · have h2 : (putD σ (some t) v).getD t undef = undef := by simp only [putD, List.getD_eq_getElem?_getD]; rw [List.getElem?_eq_none (by simp; omega)]; rfl
          have h3 : (a.put (some t) v').tmps.getD t undef = undef := by
            have : ¬ t < (a.put (some t) v').tmps.size := by rw [put_size, ← hP.len]; exact htl
            simp only [Array.getD_eq_getD_getElem?]; rw [Array.getElem?_eq_none (by omega)]; rfl
          rw [h2, h3]; exact VR.undef _ _
      · rw [hσ1, putD_ne (fun e => hd (hdi.trans e)), put_ne (fun e => hd (hdi.trans (hdst.trans e)))]
        refine (hP.rel t fun j hj hXj => ht j (by simp [hj]) ?_).mono hE.le hE.sz
        have hji : j ≠ i := fun e => s2 (e ▸ hj)
        simp [addX, hji, hXj]
    · obtain ⟨hjd, hXj'⟩ := notin j hj hXj
      obtain ⟨q1, q2⟩ := hold j hjd hXj'
      refine (hP.pend j hjd hXj').keep hlen1 rfl q1 q2 (fun o2 v2 ho2 hw2 hk2 hx2 hd2 => ?_) (fun o2 ho2 hk2 hlt hρ => ?_)
      · rcases hk2 with hk2 | hk2
        · refine ⟨v2, ?_, hd2⟩
          rw [xop_congr (ev_same (by rw [← nameOf_some ho2]; exact q1))]
          exact xop_pur hk2 hx2 h1
        · have hjs : j ∈ js := by
            rcases s6 he j hjd with h | h | h | h
            · rw [kdOf_some ho2] at h; exact absurd hk2 h
            · rw [hP.doneX j hjd hXj'] at h; cases h
            · rw [hr j h] at hXj'; cases hXj'
            · exact h
          obtain ⟨o3, ho3, h4⟩ := recheck_mem hrc j hjs
          rw [ho2] at ho3; cases ho3
          obtain ⟨d, v3, hh, h5, h6, h7⟩ := h4 hw2
          have := xop_same (.inr hk2) h6
          subst this
          exact ⟨v3, h6, fun d' hd' _ => by rw [h5] at hd'; cases hd'; exact h7⟩
      · obtain ⟨h5, h6⟩ := hE.keep _ hlt hρ
        exact ⟨Nat.lt_of_lt_of_le hlt hE.n, h5, h6⟩
    · rcases List.mem_cons.1 hj with rfl | hj
      · rw [he] at hej; cases hej
      · exact hP.quiet j hj hej
    · rcases List.mem_cons.1 hj with rfl | hj
      · simp [s3 k hk]
      · simp [hP.topo j hj k hk]
    · rcases List.mem_cons.1 hj with rfl | hj
      · exact s1
      · exact hP.bnd j hj
  unfold wpOp
  rw [e1]
  simp only [hw]
  unfold step1 at hst
  by_cases hwt : wantedH σ ho.guard = true
  · rw [if_pos hwt] at hst ⊢
    left
    split at hst
    · rename_i v h2 hx
      cases hst
      refine oper_names R.hcall hP.inv hco a hrel hx fun v' w' ρ' k1 k2 k3 => hK (putD σ ho.dst v) h1 _ w' ρ' ?_
      have hn := next ρ' w' v v' rfl k1 k2 k3
      rw [← hdst] at hn
      exact hn
    · cases hst
  · rw [if_neg hwt] at hst ⊢
    cases hst
    exact hK _ _ _ _ _ (next ρ w undef undef rfl hP.inv (Ext.refl _ _ _) (VR.undef _ _))
/-- All is done. -/
theorem all_done (hP : PInv R ρs hs ws σf hf X phi done todo σ hc a w ρ) (hall : ∀ i, i < R.l.length → X i = true) : Inv lo n0 w0 ρ hf w ∧ Ext ρs ρ hs hf ws w ∧ VRl ρ w σf a.tmps.toList ∧ a.defers = [] := by
  have ht : todo = [] := by
    cases todo with
    | nil => rfl
    | cons p rest =>
      obtain ⟨i, js⟩ := p
      obtain ⟨s1, _⟩ := sched_cons hP.sch
      have h1 := hP.todoX (i, js) (by simp)
      rw [hall i s1] at h1; cases h1
  subst ht
  have hr := hP.run
  simp only [drws] at hr
  cases hr
  refine ⟨hP.inv, hP.ext, ⟨by rw [hP.len]; simp, fun t ht => ?_⟩, hP.dfr⟩
  have := hP.rel t fun j hj hXj => by rw [hall j (hP.bnd j hj)] at hXj; cases hXj
  rw [getD_toList] at this
  exact this
end steps
theorem ready_spec {listed : Array Bool} {i : Nat} (h : i ∈ Region.ready .any R.ops listed) : i < R.ops.size ∧ listed.getD i true = false ∧ ∃ o, R.ops[i]? = some o ∧ ∀ j ∈ onsOf o, listed.getD j false = true := by
  unfold Region.ready at h
  rw [List.mem_filter] at h
  obtain ⟨h1, h2⟩ := h
  simp only [Bool.and_eq_true, Bool.not_eq_true'] at h2
  have hlt : i < R.ops.size := by simpa using h1
  refine ⟨hlt, h2.1, R.ops[i], by simp [hlt], fun j hj => ?_⟩
  have h3 := h2.2
  rw [Array.getElem?_eq_getElem hlt] at h3
  simp only [Option.map_some, Option.getD_some] at h3
  unfold onsOf at hj
  rw [List.mem_filterMap] at hj
  obtain ⟨e, he, h4⟩ := hj
  split at h4
  · rename_i hb
    cases h4
    rw [← Array.all_toList, List.all_eq_true] at h3
    have := h3 e he
    rw [hb] at this
    simpa using this
  · cases h4
theorem ready_mem {listed : Array Bool} {i : Nat} {o : Oper} (h1 : R.ops[i]? = some o) (h2 : listed.getD i true = false) (h3 : ∀ j ∈ onsOf o, listed.getD j false = true) : i ∈ Region.ready .any R.ops listed := by
  unfold Region.ready
  rw [List.mem_filter]
  have hlt : i < R.ops.size := by
    rcases Nat.lt_or_ge i R.ops.size with h | h
    · exact h
    · rw [Array.getElem?_eq_none h] at h1; cases h1
  refine ⟨by simpa using hlt, ?_⟩
  rw [h1]
  simp only [h2, Bool.not_false, Option.map_some, Option.getD_some, Bool.true_and]
  rw [← Array.all_toList, List.all_eq_true]
  intro e he
  by_cases hb : Region.binds .any e = true
  · rw [h3 e.on (List.mem_filterMap.2 ⟨e, he, by rw [if_pos hb]⟩)]; simp
  · simp only [Bool.not_eq_true] at hb; rw [hb]; rfl
theorem bef_spec {i : Nat} {o : Oper} (h : R.ops[i]? = some o) : (∀ j ∈ onsOf o, j ∈ R.bef.getD i [] ∧ j < i) ∧ ∀ j ∈ R.bef.getD i [], j ∈ onsOf o ∨ ∃ k ∈ onsOf o, j ∈ R.bef.getD k [] := by
  have hb := R.hbef
  unfold befOK at hb
  rw [List.all_eq_true] at hb
  have hlt : i < R.ops.size := by
    rcases Nat.lt_or_ge i R.ops.size with h' | h'
    · exact h'
    · rw [Array.getElem?_eq_none h'] at h; cases h
  have h1 := hb i (by simpa using hlt)
  have h2 : R.ops.toList[i]? = some o := by simpa using h
  rw [h2] at h1
  simp only [Bool.and_eq_true, List.all_eq_true, List.contains_iff_mem, decide_eq_true_eq, List.any_eq_true, Bool.or_eq_true, beq_iff_eq] at h1
  obtain ⟨h3, h4⟩ := h1
  refine ⟨fun j hj => h3 j hj, fun j hj => ?_⟩
  obtain ⟨k, hk, h5⟩ := h4 j hj
  rcases h5 with h5 | h5
  · left; rw [← h5]; exact hk
  · right; exact ⟨k, hk, h5⟩
theorem ready_bef {listed : Array Bool} {X : Nat → Bool} (hX : ∀ i, X i = listed.getD i false) (hclo : ∀ i, X i = true → ∀ j ∈ R.bef.getD i [], X j = true) {i : Nat} (h : i ∈ Region.ready .any R.ops listed) : ∀ j ∈ R.bef.getD i [], X j = true := by
  obtain ⟨_, _, o, ho, h3⟩ := ready_spec h
  intro j hj
  rcases (bef_spec ho).2 j hj with h4 | ⟨k, hk, h4⟩
  · rw [hX]; exact h3 j h4
  · exact hclo k (by rw [hX]; exact h3 k hk) j h4
theorem count_add (X : Nat → Bool) (i : Nat) (hXi : X i = false) : ∀ n, i < n → ((List.range n).filter (addX X i)).length = ((List.range n).filter X).length + 1
  | 0, h => by omega
  | n + 1, h => by
    rw [List.range_succ, List.filter_append, List.filter_append, List.length_append, List.length_append]
    by_cases e : i = n
    · subst e
      have h1 : (List.range i).filter (addX X i) = (List.range i).filter X := by
        apply List.filter_congr
        intro j hj
        have : j ≠ i := by have := List.mem_range.1 hj; omega
        simp [addX, this]
      rw [h1]
      simp [addX, hXi]
    · have h2 := count_add X i hXi n (by omega)
      have h3 : addX X i n = X n := by simp [addX, show n ≠ i from fun z => e z.symm]
      rw [h2]
      simp only [List.filter_cons, h3, List.filter_nil]
      omega
theorem sched_cover : ∀ {todo : List (Nat × List Nat)} {done : List Nat}, schedOK R.ops.toList R.l R.bef R.effs done todo = true → ∀ i, i < R.l.length → i ∈ done ∨ ∃ p ∈ todo, p.1 = i
  | [], done, h, i, hi => by
    simp only [schedOK, List.all_eq_true, List.contains_iff_mem] at h
    exact .inl (h i (by simpa using hi))
  | (j, js) :: rest, done, h, i, hi => by
    obtain ⟨_, _, _, _, _, _, s7⟩ := sched_cons h
    rcases sched_cover s7 i hi with h1 | ⟨p, hp, h2⟩
    · rcases List.mem_cons.1 h1 with rfl | h1
      · exact .inr ⟨(i, js), by simp, rfl⟩
      · exact .inl h1
    · exact .inr ⟨p, by simp [hp], h2⟩
theorem any_ok {ρs : Rho} {hs : Heap} {ws : World} {σf : List Value} {hf : Heap} {Q : Exit → Act → World → Prop}
    (hQ : ∀ a' w' ρ', Inv lo n0 w0 ρ' hf w' → Ext ρs ρ' hs hf ws w' → VRl ρ' w' σf a'.tmps.toList → a'.defers = [] → Q .normal a' w') :
    ∀ (fuel : Nat) (listed : Array Bool) (X : Nat → Bool) (phi : Nat → Nat) (done : List Nat) (todo : List (Nat × List Nat)) (σ : List Value) (hc : Heap) (a : Act) (w : World) (ρ : Rho), listed.size = R.ops.size → (∀ i, X i = listed.getD i false) →
      R.ops.size ≤ fuel + ((List.range R.ops.size).filter X).length → PInv R ρs hs ws σf hf X phi done todo σ hc a w ρ → (∀ i js rest, todo = (i, js) :: rest → R.effs.getD i true = true) → wpAny P .any R.ops Q fuel listed a w := by
  have hlen : R.l.length = R.ops.size := by have := (compOps_get R.hl).1; simpa using this
  -- where nothing is ready all is done
  have fin : ∀ (listed : Array Bool) (X : Nat → Bool) (phi : Nat → Nat) (done : List Nat) (todo : List (Nat × List Nat)) (σ : List Value) (hc : Heap) (a : Act) (w : World) (ρ : Rho), listed.size = R.ops.size → (∀ i, X i = listed.getD i false) → PInv R ρs hs ws σf hf X phi done todo σ hc a w ρ →
      Region.ready .any R.ops listed = [] → Q .normal a w := by
    intro listed X phi done todo σ hc a w ρ hsz hX hP hrd
    have allX : ∀ i, i < R.l.length → X i = true := by
      intro i
      induction i using Nat.strongRecOn with
      | _ i ih =>
        intro hi
        rw [hlen] at hi
        by_cases hXi : X i = true
        · exact hXi
        · exfalso
          have hXi' : X i = false := by simpa using hXi
          have ho : R.ops[i]? = some R.ops[i] := by simp [hi]
          have hall : ∀ j ∈ onsOf R.ops[i], listed.getD j false = true := fun j hj => by
            rw [← hX]
            have := ((bef_spec ho).1 j hj).2
            exact ih j this (by rw [hlen]; omega)
          have hl : listed.getD i true = false := by
            rw [hX] at hXi'
            have hi2 : i < listed.size := hsz ▸ hi
            simpa [Array.getD_eq_getD_getElem?, hi2] using hXi'
          have := ready_mem ho hl hall
          rw [hrd] at this; cases this
    obtain ⟨h1, h2, h3, h4⟩ := all_done hP allX
    exact hQ a w ρ h1 h2 h3 h4
  intro fuel
  induction fuel with
  | zero =>
    intro listed X phi done todo σ hc a w ρ hsz hX hcnt hP hhd
    have hrd : Region.ready .any R.ops listed = [] := by
      rw [List.eq_nil_iff_forall_not_mem]
      intro i hi
      obtain ⟨h1, h2, _⟩ := ready_spec hi
      have hXi : X i = false := by
        rw [hX]
        have hi2 : i < listed.size := hsz ▸ h1
        simpa [Array.getD_eq_getD_getElem?, hi2] using h2
      have h3 : ((List.range R.ops.size).filter X).length < (List.range R.ops.size).length := by
        refine Nat.lt_of_le_of_ne (List.length_filter_le _ _) fun e => ?_
        have := (List.length_filter_eq_length_iff.1 e) i (by simpa using h1)
        rw [hXi] at this; cases this
      simp at h3
      omega
    exact ⟨hrd, fin _ _ _ _ _ _ _ _ _ _ hsz hX hP hrd⟩
  | succ fuel ih =>
    intro listed X phi done todo σ hc a w ρ hsz hX hcnt hP hhd
    refine ⟨fun hrd => fin _ _ _ _ _ _ _ _ _ _ hsz hX hP hrd, fun i hi => ?_⟩
    obtain ⟨h1, h2, _⟩ := ready_spec hi
    have hi2 : i < listed.size := hsz ▸ h1
    have hXi : X i = false := by
      rw [hX]
      simpa [Array.getD_eq_getD_getElem?, hi2] using h2
    have hbf := ready_bef hX hP.clo hi
    have hsz' : (listed.setIfInBounds i true).size = R.ops.size := by simpa using hsz
    have hX' : ∀ j, addX X i j = (listed.setIfInBounds i true).getD j false := by
      intro j
      unfold addX
      by_cases e : j = i
      · subst e; simp [Array.getD_eq_getD_getElem?, hi2]
      · rw [if_neg e, hX]
        simp [Array.getD_eq_getD_getElem?, Array.getElem?_setIfInBounds_ne (show i ≠ j from fun z => e z.symm)]
    have hcnt' : R.ops.size ≤ fuel + ((List.range R.ops.size).filter (addX X i)).length := by
      rw [count_add X i hXi R.ops.size h1]; omega
    by_cases hd : i ∈ done
    · exact step_pend hP hd hXi hbf fun a' w' ρ' hP' => ih _ _ _ _ _ _ _ _ _ _ hsz' hX' hcnt' hP' hhd
    · have hcov := sched_cover hP.sch i (by rw [hlen]; exact h1)
      obtain ⟨p, hp, hpi⟩ := hcov.resolve_left hd
      cases todo with
      | nil => cases hp
      | cons q rest =>
        obtain ⟨e, js⟩ := q
        have he := hhd e js rest rfl
        by_cases hie : i = e
        · subst hie
          refine step_eff hP he hbf fun σ1 h1 a' w' ρ' hP' => ?_
          obtain ⟨phi2, done2, todo2, σ2, hc2, hP2, hhd2⟩ := adv _ _ _ _ _ hP'
          exact ih _ _ _ _ _ _ _ _ _ _ hsz' hX' hcnt' hP2 hhd2
        · exfalso
          have hpr : p ∈ rest := by
            rcases List.mem_cons.1 hp with rfl | hp
            · exact absurd hpi.symm hie
            · exact hp
          obtain ⟨_, _, _, _, s5, _, _⟩ := sched_cons hP.sch
          have h3 := hbf e (hpi ▸ s5 he p hpr)
          rw [hP.todoX (e, js) (by simp)] at h3; cases h3
end
end Go.Proofs.Ytbjgnogcjglcoaa.Hm
