import Derived.Test.YtbjgnogcjglcoaaA6
import Derived.Test.YtbjgnogcjglcoaaSA
namespace Go.Proofs.Ytbjgnogcjglcoaa.Hm.V
open Go
set_option linter.all false
theorem flat_len {e : Nat} : ∀ {xs : List (List Value)}, (∀ x ∈ xs, x.length = e) → xs.flatten.length = xs.length * e
  | [], _ => by simp
  | x :: xs, h => by
    have h1 := h x (by simp)
    have ih := flat_len (xs := xs) fun y hy => h y (by simp [hy])
    rw [List.flatten_cons, List.length_append, h1, ih, List.length_cons, Nat.add_mul]; omega
theorem gro_whole {lo : Nat} {Z : Vw} {O : List Pt} {h : Heap} {v : Value} {e : Nat} {xs xs' : List (List Value)} (m : Mem lo Z (.gro v e xs :: O) h) (hl : xs'.length = xs.length) (hx : ∀ x ∈ xs', x.length = e) (hne : xs ≠ []) :
    ∃ b sp cp, v = .slice (some ⟨b, 0, sp⟩) xs.length cp ∧ h.rd b 0 (xs.length * e) = some xs.flatten ∧ ∃ h', h.wr lo b 0 xs'.flatten = some h' ∧ Mem lo Z (.gro v e xs' :: O) h' := by
  obtain ⟨h5, he, ⟨rfl, rfl⟩ | ⟨b, c, fl, rfl, h1, h2, h3, h4⟩ | ⟨b, rfl, h1, h2⟩⟩ := m.own _ List.mem_cons_self
  · exact absurd rfl hne
  · have hf := flat_len h5
    have hf' := flat_len hx
    rw [hl] at hf'
    have hrd : h.rd b 0 (xs.length * e) = some xs.flatten := by
      unfold Heap.rd
      rw [cells_cls h2 h3 h4]
      simp only [Nat.zero_add, hf, Nat.le_refl, if_true, List.drop_zero]
      rw [← hf, List.take_length]
    refine ⟨b, some e, xs.length, rfl, hrd, _, ?_, m.setGro (xs' := xs') h2 h3 hl.symm hl.symm hx⟩
    unfold Heap.wr
    rw [cells_cls h2 h3 h4]
    simp only [Nat.zero_add, hf, hf', Nat.le_refl, if_true, List.take_zero, List.nil_append]
    rw [List.drop_of_length_le (by rw [hf]; exact Nat.le_refl _), List.append_nil]
    unfold Heap.put
    rw [if_neg (by omega), h2]
    simp only [h3, if_true]
  · have hf := flat_len h5
    have hf' := flat_len hx
    rw [hl] at hf'
    have hrd : h.rd b 0 (xs.length * e) = some xs.flatten := by
      unfold Heap.rd
      rw [cells_row h2]
      simp only [Nat.zero_add, hf, Nat.le_refl, if_true, List.drop_zero]
      rw [← hf, List.take_length]
    refine ⟨b, none, xs.length, rfl, hrd, _, wr_row h2 h1 (by omega), ?_⟩
    have hcs : (xs.flatten.take 0 ++ (xs'.flatten ++ xs.flatten.drop (0 + xs'.flatten.length))) = xs'.flatten := by
      rw [List.take_zero, List.nil_append, List.drop_of_length_le (by rw [hf, hf']; omega), List.append_nil]
    rw [hcs]
    refine m.setRow (o' := .gro (.slice (some ⟨b, 0, none⟩) xs.length xs.length) e xs') (b := b) rfl rfl h2 ⟨hx, he, .inr (.inr ⟨b, by rw [hl], h1, ?_⟩)⟩
    rw [Heap.get_setB h2, if_pos rfl]
end Go.Proofs.Ytbjgnogcjglcoaa.Hm.V
namespace Go.Proofs.Ytbjgnogcjglcoaa.Hm.V
open Go
set_option linter.all false
theorem decT_of : ∀ l : List FT, decT (flatT l) = some l
  | [] => rfl
  | ⟨(a, b, c), hx⟩ :: l => by
    have ih := decT_of l
    show decT (.int .i64 a :: .int .i64 b :: .int .i64 c :: flatT l) = _
    rw [decT, dif_pos hx, ih]; rfl
theorem sort_call {F : Nat → Option HFn} {lo k g : Nat} {Z : Vw} {fn : HFn} {v : Value} {l : List FT} (hF : F k = some fn) (hp : fn.prim = some (sortP g)) (hlen : l.length < 4611686018427387904) :
    Call1 F lo k [v, .func (.func g) #[] #[]] Z (.gro v 3 (l.map encT)) fun r _ o' => r = .tuple #[] ∧ o' = .gro v 3 ((l.mergeSort leT).map encT) := by
  intro R h m
  have m : Mem lo Z (.gro v 3 (l.map encT) :: R) h := m
  cases l with
  | nil =>
    obtain ⟨h5, he, ⟨rfl, _⟩ | ⟨b, c, fl, rfl, h1, h2, h3, h4⟩ | ⟨b, rfl, h1, h2⟩⟩ := m.own _ List.mem_cons_self
    all_goals
      refine ⟨0, .tuple #[], h, Z, [_], ?_, .refl _, m, _, rfl, rfl, by simp⟩
      unfold hcall
      rw [hF]
      simp only [hp]
      simp [sortP]
  | cons x l =>
    have hl2 : ((x :: l).mergeSort leT).length = (x :: l).length := List.length_mergeSort _
    obtain ⟨b, sp, cp, rfl, hrd, h', hw, m'⟩ := gro_whole m (xs' := ((x :: l).mergeSort leT).map encT) (by simp [hl2]) (fun y hy => by obtain ⟨z, _, rfl⟩ := List.mem_map.1 hy; rfl) (by simp)
    refine ⟨0, .tuple #[], h', Z, [_], ?_, .refl _, m', _, rfl, rfl, rfl⟩
    unfold hcall
    rw [hF]
    simp only [hp, sortP]
    rw [List.length_map] at hrd ⊢
    have hd : decT ((x :: l).map encT).flatten = some (x :: l) := decT_of (x :: l)
    have hw2 : h.wr lo b 0 (flatT ((x :: l).mergeSort leT)) = some h' := hw
    rw [if_pos (by simp), if_neg (by simp), if_pos hlen]
    simp only [hrd, hd, hw2, Option.map_some]
end Go.Proofs.Ytbjgnogcjglcoaa.Hm.V
namespace Go.Proofs.Ytbjgnogcjglcoaa.Hm.V
open Go
set_option linter.all false
def tailV (v : Value) (k e : Nat) : Value := match v with
  | .slice (some ⟨b, o, none⟩) n c => .slice (some ⟨b, if c = k then o else o + k * e, none⟩) (n - k) (c - k)
  | .slice (some ⟨b, o, some z⟩) n c => .slice (some ⟨b, o + k * e, some z⟩) (n - k) (c - k)
  | v => v
theorem wr_tail {lo b o : Nat} {h : Heap} {cs vs : List Value} (hc : h.cells b = some cs) (hl : o + vs.length = cs.length) : h.wr lo b o vs = h.wr lo b 0 (cs.take o ++ vs) := by
  have h1 : (cs.take o).length = o := by simp; omega
  unfold Heap.wr
  rw [hc]
  simp only [Nat.zero_add, List.length_append, h1, hl, Nat.le_refl, if_true, List.take_zero, List.nil_append, List.append_assoc]
section
variable {F : Nat → Option HFn} {lo N : Nat} {A : Tab} {Z : Vw} {O g : List Pt} {f : Pt → List Pt} {K : Value → Vw → List Pt → Prop} {x : Operand} {v : Value}
theorem X_clrG {e k : Nat} {xs : List (List Value)} {zero : List Value} [t : AtG O v e xs f g] (hx : evA A x = some (tailV v k e)) (hk : k ≤ xs.length) (hz : zero.length = e)
    (kk : K (.tuple #[]) Z (f (.gro v e (xs.take k ++ List.replicate (xs.length - k) zero)))) : X F lo (.clr zero x) N A Z O K :=
  fun R σ h hs m => by
    have hat := t.out
    have m1 := At.mem hat m
    have hx5 : ∀ y ∈ xs.take k ++ List.replicate (xs.length - k) zero, y.length = e := by
      intro y hy
      rcases List.mem_append.1 hy with hy | hy
      · exact (m1.own _ List.mem_cons_self).1 y (List.mem_of_mem_take hy)
      · rw [(List.mem_replicate.1 hy).2]; exact hz
    have hl5 : (xs.take k ++ List.replicate (xs.length - k) zero).length = xs.length := by simp; omega
    rcases Nat.lt_or_ge k xs.length with hlt | hge
    · obtain ⟨b, sp, cp, rfl, hrd, h', hw, m'⟩ := gro_whole m1 hl5 hx5 (by intro hh; rw [hh] at hlt; simp at hlt)
      have hown := m1.own _ List.mem_cons_self
      have hf := flat_len hown.1
      have hcells : h.cells b = some xs.flatten := by
        unfold Heap.rd at hrd
        split at hrd
        · rename_i cs hc
          split at hrd
          · rename_i hle
            obtain ⟨_, _, ⟨h9, _⟩ | ⟨b', c, fl, h9, h1, h2, h3, h4⟩ | ⟨b', h9, h1, h2⟩⟩ := hown
            · cases h9
            · cases h9; rw [cells_cls h2 h3 h4]
            · cases h9; rw [cells_row h2]
          · cases hrd
        · cases hrd
      have hcp : cp = xs.length := by
        obtain ⟨_, _, ⟨h9, _⟩ | ⟨b', c, fl, h9, h1, h2, h3, h4⟩ | ⟨b', h9, h1, h2⟩⟩ := hown
        · cases h9
        · cases h9; rfl
        · cases h9; rfl
      subst hcp
      have htk : (xs.take k).flatten = xs.flatten.take (k * e) := by
        have e1 : xs.flatten = (xs.take k).flatten ++ (xs.drop k).flatten := by rw [← List.flatten_append, List.take_append_drop]
        have e2 : (xs.take k).flatten.length = k * e := by
          rw [flat_len (fun y hy => hown.1 y (List.mem_of_mem_take hy)), List.length_take, Nat.min_eq_left hk]
        rw [e1, List.take_left' e2]
      have hzl : (List.replicate (xs.length - k) zero).flatten.length = (xs.length - k) * e := by
        rw [flat_len (e := e) (fun y hy => by rw [(List.mem_replicate.1 hy).2]; exact hz), List.length_replicate]
      have hmul : k * e + (xs.length - k) * e = xs.length * e := by rw [← Nat.add_mul]; congr 1; omega
      have hw2 : h.wr lo b (k * e) (List.replicate (xs.length - k) zero).flatten = some h' := by
        rw [wr_tail hcells (by rw [hzl, hf]; exact hmul), ← htk, ← List.flatten_append]
        exact hw
      have hev : ∃ c, tailV (.slice (some ⟨b, 0, sp⟩) xs.length xs.length) k e = .slice (some ⟨b, k * e, sp⟩) (xs.length - k) c := by
        cases sp with
        | none => exact ⟨xs.length - k, by have h9 : ¬ xs.length = k := by omega
                                           simp [tailV, h9]⟩
        | some z => exact ⟨xs.length - k, by simp [tailV]⟩
      obtain ⟨c, hev⟩ := hev
      rw [hev] at hx
      refine ⟨0, .tuple #[], h', Z, _, ?_, .refl _, At.back hat m', kk⟩
      rw [xo (by simp)]
      simp only [xop, evA_ok hs hx]
      rw [if_neg (by omega), hw2]; rfl
    · obtain rfl : k = xs.length := by omega
      have hsame : xs.take xs.length ++ List.replicate (xs.length - xs.length) zero = xs := by simp
      rw [hsame] at kk
      refine ⟨0, .tuple #[], h, Z, _, ?_, .refl _, At.back hat m1, kk⟩
      rw [xo (by simp)]
      obtain ⟨_, _, ⟨h9, h8⟩ | ⟨b', c, fl, h9, h1, h2, h3, h4⟩ | ⟨b', h9, h1, h2⟩⟩ := m1.own _ List.mem_cons_self
      · subst h9
        simp only [tailV] at hx
        simp only [xop, evA_ok hs hx]
      · subst h9
        simp only [tailV, Nat.sub_self] at hx
        simp only [xop, evA_ok hs hx, if_true]
      · subst h9
        simp only [tailV, Nat.sub_self] at hx
        simp only [xop, evA_ok hs hx, if_true]
theorem X_tailG {e k : Nat} {kd : IntKind} {i : Int} {xs : List (List Value)} {y : Operand} [t : AtG O v e xs f g] [ti : TN i k] (hx : evA A x = some v) (hy : evA A y = some (.int kd i)) (h0 : 0 ≤ i) (hk : k ≤ xs.length)
    (kk : K (tailV v k e) Z O) : X F lo (.slice e x (some y) none none) N A Z O K :=
  fun R σ h hs m => by
    have hat := t.out
    have hti : i.toNat = k := ti.out
    have m1 := At.mem hat m
    refine ⟨0, tailV v k e, h, Z, O, ?_, .refl _, m, kk⟩
    rw [xo (by simp)]
    have hsn : ∀ d : Nat, seen (some (.int kd i)) d = some k := fun d => by simp [seen, h0, hti]
    obtain ⟨_, _, ⟨h9, h8⟩ | ⟨b', c, fl, h9, h1, h2, h3, h4⟩ | ⟨b', h9, h1, h2⟩⟩ := m1.own _ List.mem_cons_self
    · subst h9
      subst h8
      have hk0 : k = 0 := by simpa using hk
      subst hk0
      simp only [xop, evA_ok hs hx, Option.map_some, Option.map_none, evA_ok hs hy, sliceOf, hsn, tailV]
      simp [seen]
    · subst h9
      simp only [xop, evA_ok hs hx, Option.map_some, Option.map_none, evA_ok hs hy, sliceOf, hsn, tailV]
      simp [seen, hk]
    · subst h9
      simp only [xop, evA_ok hs hx, Option.map_some, Option.map_none, evA_ok hs hy, sliceOf, hsn, tailV]
      simp [seen, hk]
theorem X_lenTail {e k : Nat} {xs : List (List Value)} [t : AtG O v e xs f g] (hx : evA A x = some (tailV v k e)) (hk : k ≤ xs.length) (kk : K (.int .i64 ((xs.length - k : Nat) : Int)) Z O) : X F lo (.len x) N A Z O K :=
  fun R σ h hs m => by
    have m1 := At.mem t.out m
    refine ⟨0, .int .i64 ((xs.length - k : Nat) : Int), h, Z, O, ?_, .refl _, m, kk⟩
    rw [xo (by simp)]
    obtain ⟨_, _, ⟨h9, h8⟩ | ⟨b', c, fl, h9, h1, h2, h3, h4⟩ | ⟨b', h9, h1, h2⟩⟩ := m1.own _ List.mem_cons_self
    · subst h9
      subst h8
      simp only [tailV] at hx
      simp [xop, evA_ok hs hx]
    · subst h9
      simp only [tailV] at hx
      simp [xop, evA_ok hs hx]
    · subst h9
      simp only [tailV] at hx
      simp [xop, evA_ok hs hx]
theorem X_iaTail {e k j : Nat} {kd : IntKind} {i : Int} {xs : List (List Value)} {y : Operand} [t : AtG O v e xs f g] [ti : TN i j] (hx : evA A x = some (tailV v k e)) (hy : evA A y = some (.int kd i)) (h0 : 0 ≤ i) (hk : k + j < xs.length)
    (kk : K (.pointer (some ⟨bb v, oo v + (k + j) * e, none⟩)) Z O) : X F lo (.iaddr e x y) N A Z O K :=
  fun R σ h hs m => by
    have hti : i.toNat = j := ti.out
    have m1 := At.mem t.out m
    refine ⟨0, .pointer (some ⟨bb v, oo v + (k + j) * e, none⟩), h, Z, O, ?_, .refl _, m, kk⟩
    rw [xo (by simp)]
    have hlt : i < ((xs.length - k : Nat) : Int) := by omega
    obtain ⟨_, _, ⟨h9, h8⟩ | ⟨b', c, fl, h9, h1, h2, h3, h4⟩ | ⟨b', h9, h1, h2⟩⟩ := m1.own _ List.mem_cons_self
    · subst h8
      simp at hk
    · subst h9
      simp only [tailV] at hx
      simp only [xop, evA_ok hs hx, evA_ok hs hy]
      rw [if_pos ⟨h0, hlt⟩, hti]
      simp [bb, oo, Nat.add_mul]
    · subst h9
      have hne : ¬ xs.length = k := by omega
      simp only [tailV, if_neg hne] at hx
      simp only [xop, evA_ok hs hx, evA_ok hs hy]
      rw [if_pos ⟨h0, hlt⟩, hti]
      simp [bb, oo, Nat.add_mul]
end
end Go.Proofs.Ytbjgnogcjglcoaa.Hm.V
namespace Go.Proofs.Ytbjgnogcjglcoaa.Hm.V
open Go
set_option linter.all false
theorem Has.refl' : ∀ O : List Pt, Has O O
  | [] => .nil
  | .box b cs :: O => .box .here rfl (Has.refl' O)
  | .arr v e c xs :: O => .arr .here rfl (Has.refl' O)
  | .gro v e xs :: O => .gro .here rfl (Has.refl' O)
  | .map v es :: O => .map .here rfl (Has.refl' O)
theorem hKeep {O L : List Pt} (h : O = L) : Has O L := h ▸ Has.refl' O
def grosE {α : Type} (e : Nat) (fe : α → List Value) : List Value → List (List α) → List Pt
  | w :: ws, l :: ls => .gro w e (l.map fe) :: grosE e fe ws ls
  | _, _ => []
theorem atE {α : Type} {e : Nat} {fe : α → List Value} : ∀ {ws : List Value} {ls : List (List α)} {k : Nat}, ws.length = ls.length → k < ws.length →
    ∃ f g, At (grosE e fe ws ls) (.gro (ws.getD k default) e ((ls.getD k default).map fe)) f g ∧ ∀ v l, f (.gro v e (l.map fe)) = grosE e fe (ws.set k v) (ls.set k l)
  | w :: ws, l :: ls, 0, _, _ => ⟨_, _, .here, fun v l' => rfl⟩
  | w :: ws, l :: ls, k + 1, h, hk => by
    obtain ⟨f, g, h1, h2⟩ := atE (e := e) (fe := fe) (ws := ws) (ls := ls) (k := k) (by simpa using h) (by simpa using hk)
    exact ⟨_, _, .there h1, fun v l' => by
      show _ :: f _ = _
      rw [h2]; rfl⟩
  | [], _, _, _, hk => absurd hk (by simp)
  | w :: ws, [], _, h, _ => absurd h (by simp)
theorem uGE {α : Type} {e : Nat} {fe : α → List Value} {lo : Nat} {P : List Pt} {K : Vw → List Pt → Prop} : ∀ {ws : List Value} {ls : List (List α)} {Z : Vw}, ws.length = ls.length → (∀ Z', Z.le Z' → (∀ k, k < ws.length → Fz Z' e (ws.getD k default) ((ls.getD k default).map fe)) → Upd lo Z' P K) → Upd lo Z (P ++ grosE e fe ws ls) K
  | [], ls, Z, h, k => by
    have : P ++ grosE e fe [] ls = P := by simp [grosE]
    rw [this]
    exact k Z (.refl _) fun j hj => absurd hj (by simp)
  | w :: ws, [], _, h, _ => absurd h (by simp)
  | w :: ws, l :: ls, Z, h, k => by
    refine Upd.perm (O' := .gro w e (l.map fe) :: (P ++ grosE e fe ws ls)) (by
      show (P ++ (.gro w e (l.map fe) :: grosE e fe ws ls)).Perm _
      exact List.perm_middle) ?_
    refine Upd.gro .here fun Z1 hz1 hf => ?_
    refine uGE (by simpa using h) fun Z2 hz2 h2 => k Z2 (hz1.trans hz2) fun j hj => ?_
    match j with
    | 0 => exact hf.le hz2
    | j + 1 => exact h2 j (by simpa using hj)
theorem uGE0 {α : Type} {e : Nat} (fe : α → List Value) (he : 0 < e) {lo : Nat} {P : List Pt} {Z : Vw} {K : Vw → List Pt → Prop} : ∀ (n : Nat), Upd lo Z (P ++ grosE e fe (List.replicate n (.slice none 0 0)) (List.replicate n [])) K → Upd lo Z P K
  | 0, k => by
    have : P ++ grosE e fe (List.replicate 0 (.slice none 0 0)) (List.replicate 0 []) = P := by simp [grosE]
    rwa [this] at k
  | n + 1, k => uGE0 fe he n (Upd.gro0 he (Upd.perm (by
      show (Pt.gro _ e _ :: (P ++ _)).Perm (P ++ (Pt.gro _ e _ :: _))
      exact List.perm_middle.symm) k))
class TailE (O : List Pt) (α : outParam Type) (e : outParam Nat) (fe : outParam (α → List Value)) (ws : outParam (List Value)) (ls : outParam (List (List α))) (f : outParam (List Value → List (List α) → List Pt)) : Prop where
  out : O = f ws ls
  at_ : ∀ {k : Nat}, ws.length = ls.length → k < ws.length → ∃ F g, At O (.gro (ws.getD k default) e ((ls.getD k default).map fe)) F g ∧ ∀ v l, F (.gro v e (l.map fe)) = f (ws.set k v) (ls.set k l)
instance TailE.here {α : Type} {e : Nat} {fe : α → List Value} {ws : List Value} {ls : List (List α)} : TailE (grosE e fe ws ls) α e fe ws ls (grosE e fe) := ⟨rfl, atE⟩
instance TailE.there {α : Type} {e : Nat} {fe : α → List Value} {x : Pt} {O : List Pt} {ws : List Value} {ls : List (List α)} {f : List Value → List (List α) → List Pt} [t : TailE O α e fe ws ls f] : TailE (x :: O) α e fe ws ls (fun ws ls => x :: f ws ls) := ⟨by rw [t.out], fun h hk => by
  obtain ⟨F, g, h1, h2⟩ := t.at_ h hk
  exact ⟨_, _, .there h1, fun v l => by rw [h2]⟩⟩
section
variable {α : Type} {F : Nat → Option HFn} {lo N e : Nat} {fe : α → List Value} {A : Tab} {Z : Vw} {O : List Pt} {K : Value → Vw → List Pt → Prop} {x y : Operand} {v w : Value}
theorem xApE {ws : List Value} {ls : List (List α)} {f : List Value → List (List α) → List Pt} {k bytes : Nat} {ys : List (List Value)} (n : α) [t : TailE O α e fe ws ls f] [s : Se Z O w e ys] (hl : ws.length = ls.length) (hk : k < ws.length) (hs : evA A x = some (ws.getD k default)) (hx : evA A y = some w) (hy : ys = [fe n]) (hb : ((ls.getD k default).length + 1) * bytes ≤ 2 ^ 47)
    (kk : ∀ v', K v' Z (f (ws.set k v') (ls.set k (ls.getD k default ++ [n])))) : X F lo (.append e bytes x y) N A Z O K := by
  obtain ⟨f', g, h1, h2⟩ := t.at_ hl hk
  subst hy
  refine X_appendG hs hx h1 s.out (by rw [List.length_map]; exact hb) fun v' => ?_
  have e : (ls.getD k default).map fe ++ [fe n] = (ls.getD k default ++ [n]).map fe := by rw [List.map_append]; rfl
  rw [e, h2]
  exact kk v'
theorem xStE {fv : Value → List Value} {ws : List Value} {ls : List (List α)} {f : List Value → List (List α) → List Pt} {k c : Nat} {us : List Value} {f2 : Pt → List Pt} {g : List Pt} [t : TailE O α e fe ws ls f] [q : AtA O v 1 c (us.map fv) f2 g] (hfv : ∀ u, fv u = [u]) (hl : ws.length = ls.length) (hk : k < ws.length) (hv : ws.getD k default = w) (ha : evA A x = some (.pointer (some ⟨bb v, oo v + k * 1, none⟩))) (hy : evA A y = some w) (hu : us.length = ws.length)
    (kk : K undef Z (f2 (.arr v 1 c ((us.set k w).map fv)))) : X F lo (.store 1 x y) N A Z O K := by
  obtain ⟨f', g', h1, h2⟩ := t.at_ hl hk
  subst hv
  refine X_storeArr0C ha hy (.sees (.gro h1)) rfl q.out (map_at (by omega)) rfl ?_
  have e : (us.map fv).set k [ws.getD k default] = (us.set k (ws.getD k default)).map fv := by rw [List.map_set, hfv]
  rw [e]; exact kk
end
theorem uTE {α : Type} {e : Nat} {fe : α → List Value} {lo : Nat} {O : List Pt} {Z : Vw} {K : Vw → List Pt → Prop} {ws : List Value} {ls : List (List α)} (P : List Pt) (hO : O = P ++ grosE e fe ws ls) (hl : ws.length = ls.length) (k : ∀ Z', ZL Z Z' → (∀ k, k < ws.length → Fz Z' e (ws.getD k default) ((ls.getD k default).map fe)) → Upd lo Z' P K) : Upd lo Z O K := by
  subst hO
  exact uGE hl fun Z' hz h => k Z' ⟨hz⟩ h
end Go.Proofs.Ytbjgnogcjglcoaa.Hm.V
namespace Go.Proofs.Ytbjgnogcjglcoaa.Hm.V
open Go
set_option linter.all false
section
variable {F : Nat → Option HFn} {lo N : Nat} {A : Tab} {Z : Vw} {O : List Pt} {K : Value → Vw → List Pt → Prop}
end
end Go.Proofs.Ytbjgnogcjglcoaa.Hm.V
