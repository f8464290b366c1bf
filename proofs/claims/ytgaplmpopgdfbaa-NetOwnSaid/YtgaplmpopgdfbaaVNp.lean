/- Of layer 15: rules for rows that are the call's own. -/
import Derived.Test.YtgaplmpopgdfbaaHF
import Derived.Test.YtgaplmpopgdfbaaA6
import Derived.Test.YtgaplmpopgdfbaaVNo
namespace Go.Proofs.Ytgaplmpopgdfbaa.Hm.V
open Go
set_option linter.all false
set_option maxRecDepth 100000
attribute [local irreducible] X S R D W Call Upd Rds Rck Sees Res Cel CallP fnQ
theorem rowsO_at : ∀ {ws : List Value} {ls : List (List Int)} {k : Nat}, ws.length = ls.length → k < ws.length →
    ∃ f g, At (rowsO ws ls) (.arr (ws.getD k default) 1 (ls.getD k default).length ((ls.getD k default).map cI)) f g ∧ ∀ l : List Int, l.length = (ls.getD k default).length → f (.arr (ws.getD k default) 1 (ls.getD k default).length (l.map cI)) = rowsO ws (ls.set k l)
  | w :: ws, l :: ls, 0, _, _ => ⟨_, _, .here, fun l' h => by show Pt.arr w 1 l.length _ :: _ = Pt.arr w 1 l'.length _ :: _; rw [show l'.length = l.length from h]⟩
  | w :: ws, l :: ls, k + 1, h, hk => by
    obtain ⟨f, g, h1, h2⟩ := rowsO_at (ws := ws) (ls := ls) (k := k) (by simpa using h) (by simpa using hk)
    exact ⟨_, _, .there h1, fun l' h' => by
      show _ :: f _ = _
      rw [show (l :: ls).set (k + 1) l' = l :: ls.set k l' from rfl]
      exact congrArg _ (h2 l' h')⟩
  | [], _, _, _, hk => absurd hk (by simp)
  | w :: ws, [], _, h, _ => absurd h (by simp)
class TailR (O : List Pt) (ws : outParam (List Value)) (ls : outParam (List (List Int))) (f : outParam (List (List Int) → List Pt)) : Prop where
  at_ : ∀ {k : Nat}, ws.length = ls.length → k < ws.length → ∃ F g, At O (.arr (ws.getD k default) 1 (ls.getD k default).length ((ls.getD k default).map cI)) F g ∧ ∀ l : List Int, l.length = (ls.getD k default).length → F (.arr (ws.getD k default) 1 (ls.getD k default).length (l.map cI)) = f (ls.set k l)
instance TailR.here {ws : List Value} {ls : List (List Int)} : TailR (rowsO ws ls) ws ls (rowsO ws) := ⟨rowsO_at⟩
instance TailR.there {x : Pt} {O : List Pt} {ws : List Value} {ls : List (List Int)} {f : List (List Int) → List Pt} [t : TailR O ws ls f] : TailR (x :: O) ws ls (fun ls => x :: f ls) := ⟨fun h hk => by
  obtain ⟨F, g, h1, h2⟩ := t.at_ h hk
  exact ⟨_, _, .there h1, fun l hl => by rw [h2 l hl]⟩⟩
section
variable {F : Nat → Option HFn} {lo N : Nat} {A : Tab} {Z : Vw} {O : List Pt} {K : Value → Vw → List Pt → Prop} {x y : Operand} {v w : Value} {ws : List Value} {ls : List (List Int)} {f : List (List Int) → List Pt}
theorem seR {k : Nat} [t : TailR O ws ls f] (hl : ws.length = ls.length) (hk : k < ws.length) : Se Z O (ws.getD k default) 1 ((ls.getD k default).map cI) := by
  obtain ⟨F, g, h1, _⟩ := t.at_ hl hk
  exact ⟨.arr h1⟩
theorem xStR {k j : Nat} {a : Int} [t : TailR O ws ls f] (hl : ws.length = ls.length) (hk : k < ws.length) (hj : j < (ls.getD k default).length) (ha : evA A x = some (.pointer (some ⟨bb (ws.getD k default), oo (ws.getD k default) + j * 1, none⟩))) (hy : evA A y = some (.int .i64 a))
    (kk : K undef Z (f (ls.set k ((ls.getD k default).set j a)))) : X F lo (.store 1 x y) N A Z O K := by
  obtain ⟨F', g, h1, h2⟩ := t.at_ hl hk
  refine X_storeArr0C ha hy (.val rfl) rfl h1 (map_at hj) rfl ?_
  have e : ((ls.getD k default).map cI).set j [.int .i64 a] = ((ls.getD k default).set j a).map cI := by rw [List.map_set]; rfl
  rw [e, h2 _ List.length_set]
  exact kk
end
theorem Call.of {F : Nat → Option HFn} {lo k : Nat} {Z : Vw} {L : List Pt} {vs : List Value} {Q P : Value → Vw → List Pt → Prop} (hc : Call F lo k vs Z L Q) (hq : ∀ v Z' O', Z.le Z' → Q v Z' O' → Upd lo Z' O' fun Z2 O2 => P v Z2 O2) : Call F lo k vs Z L P := by
  unfold Call at hc ⊢
  intro R h m
  obtain ⟨n, v, h', Z', O', k1, k2, k3, k4⟩ := hc R h m
  have q := hq v Z' O' k2 k4
  unfold Upd at q
  obtain ⟨Z2, O2, q1, q2, q3⟩ := q R h' k3
  exact ⟨n, v, h', Z2, O2, k1, k2.trans q1, q2, q3⟩
def clErr (n : Nt) (want e : Int) : Prop := (¬ isNet n ∧ e = 150) ∨ (isNet n ∧ ¬ (want = 0 ∨ want = 1) ∧ e = 1) ∨ (isNet n ∧ (want = 0 ∨ want = 1) ∧ 400000 < 7 * (n.gs.length : Int) + 2 ∧ e = 2) ∨ (isNet n ∧ (want = 0 ∨ want = 1) ∧ 7 * (n.gs.length : Int) + 2 ≤ 400000 ∧ e = 0)
theorem ClausesU_ok (lo : Nat) {Z : Vw} {v : Value} {n : Nt} {want : Int} (hn : NtV Z v n) : Call F lo 24 [v, .int .i64 want] Z [] fun r _ O' => ∃ V vo ws ls e, r = .tuple ⟨[.agg ⟨[.int .i64 V, vo]⟩, .int .i64 e]⟩ ∧ O' = .gro vo 1 (ws.map cV) :: rowsO ws ls ∧ ws.length = ls.length ∧ clErr n want e ∧ ws.length ≤ 400000 ∧ ∀ l ∈ ls, l.length ≤ 400000 :=
  Call.of (ClausesO_ok lo hn) fun r Z' O' _ hq => by
    rcases hq with ⟨h1, rfl, rfl⟩ | ⟨h1, h2, rfl, rfl⟩ | ⟨h1, h2, h3, rfl, rfl⟩ | ⟨h1, h2, h3, vo, ws, rfl, rfl, h4⟩
    · exact Upd.gro0 (e := 1) (by decide) (Upd.done ⟨0, _, [], [], 150, rfl, rfl, rfl, .inl ⟨h1, rfl⟩, (by decide), fun l hl => absurd hl (by simp)⟩)
    · exact Upd.gro0 (e := 1) (by decide) (Upd.done ⟨0, _, [], [], 1, rfl, rfl, rfl, .inr (.inl ⟨h1, h2, rfl⟩), (by decide), fun l hl => absurd hl (by simp)⟩)
    · exact Upd.gro0 (e := 1) (by decide) (Upd.done ⟨0, _, [], [], 2, rfl, rfl, rfl, .inr (.inr (.inl ⟨h1, h2, h3, rfl⟩)), (by decide), fun l hl => absurd hl (by simp)⟩)
    · refine Upd.done ⟨_, vo, ws, _, 0, rfl, rfl, h4, .inr (.inr (.inr ⟨h1, h2, h3, rfl⟩)), ?_, fun l hl => ?_⟩
      · rw [h4]
        unfold clausesL
        rw [List.length_append, clsL_len]
        show 3 * n.gs.length + 2 ≤ _
        omega
      · obtain ⟨k, hk, rfl⟩ := List.getElem_of_mem hl
        have q := (net_cnf (want := want) h1 h3).2.2.1
        have q2 : sumL (clausesL n want) k + ((clausesL n want).getD k default).length ≤ _ := sumL_le (clausesL n want) (show k + 1 ≤ (clausesL n want).length from hk)
        have q3 : sumL (clausesL n want) (clausesL n want).length ≤ 400000 := q
        rw [getD_eq hk] at q2
        omega
end Go.Proofs.Ytgaplmpopgdfbaa.Hm.V
