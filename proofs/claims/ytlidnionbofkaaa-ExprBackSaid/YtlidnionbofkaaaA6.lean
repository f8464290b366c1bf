import Derived.Test.YtlidnionbofkaaaA7
import Derived.Test.YtlidnionbofkaaaA4
import Derived.Laws.BitsLemmas
import Derived.Test.YtlidnionbofkaaaA5
namespace Go.Proofs.Ytlidnionbofkaaa.Hm
noncomputable section
open Go
set_option linter.all false
set_option linter.unusedSimpArgs false
inductive ZR where
  | row (cs : List Value)
  | map (es : List (Value × Value))
abbrev Vw := Nat → Option ZR
def Vw.le (Z Z' : Vw) : Prop := ∀ b x, Z b = some x → Z' b = some x
theorem Vw.le.refl (Z : Vw) : Z.le Z := fun _ _ h => h
theorem Vw.le.trans {Z Z' Z'' : Vw} (a : Z.le Z') (b : Z'.le Z'') : Z.le Z'' := fun x y h => b _ _ (a _ _ h)
def ents (es : List (Value × Value × Nat)) : List (Value × Value) := es.map fun e => (e.1, e.2.1)
def bb : Value → Nat
  | .slice (some a) _ _ => a.block
  | .map (some b) => b
  | .pointer (some a) => a.block
  | _ => 0
def oo : Value → Nat
  | .slice (some a) _ _ => a.off
  | _ => 0
inductive Pt where
  | box (b : Nat) (cs : List Value)
  | arr (v : Value) (e c : Nat) (xs : List (List Value))
  | gro (v : Value) (e : Nat) (xs : List (List Value))
  | map (v : Value) (es : List (Value × Value))
def Pt.blk : Pt → Option Nat
  | .box b _ => some b
  | .arr v _ _ _ => some (bb v)
  | .gro (.slice (some a) _ _) _ _ => some a.block
  | .gro _ _ _ => none
  | .map v _ => some (bb v)
def Pt.ok (lo : Nat) (h : Heap) : Pt → Prop
  | .box b cs => lo ≤ b ∧ h.get b = some (.row cs none)
  | .arr v e c xs => ∃ b sp, v = .slice (some ⟨b, 0, none⟩) xs.length c ∧ lo ≤ b ∧ h.get b = some (.row (xs.flatten ++ sp) none) ∧ xs.length ≤ c ∧ sp.length = (c - xs.length) * e ∧ ∀ x ∈ xs, x.length = e
  | .gro v e xs => (∀ x ∈ xs, x.length = e) ∧ 0 < e ∧ ((v = .slice none 0 0 ∧ xs = []) ∨ (∃ b c fl, v = .slice (some ⟨b, 0, some e⟩) xs.length xs.length ∧ lo ≤ b ∧ h.get b = some (.row xs.flatten (some c)) ∧ h.cl c = some (b, fl) ∧ fl ≤ b) ∨ ∃ b, v = .slice (some ⟨b, 0, none⟩) xs.length xs.length ∧ lo ≤ b ∧ h.get b = some (.row xs.flatten none))
  | .map v es => ∃ b es' t, v = .map (some b) ∧ lo ≤ b ∧ h.get b = some (.map es' t) ∧ ents es' = es
def blks (O : List Pt) : List Nat := O.filterMap Pt.blk
def zok (h : Heap) (O : List Pt) (b : Nat) : ZR → Prop
  | .row cs => h.cells b = some cs ∧ b ∉ blks O ∧ ∀ cs' c, h.get b = some (.row cs' (some c)) → ∃ t fl, h.cl c = some (t, fl) ∧ t ∉ blks O
  | .map es => b ∉ blks O ∧ ∃ es' t, h.get b = some (.map es' t) ∧ ents es' = es
structure Mem (lo : Nat) (Z : Vw) (O : List Pt) (h : Heap) : Prop where
  own : ∀ o ∈ O, o.ok lo h
  nd : (blks O).Nodup
  z : ∀ b x, Z b = some x → zok h O b x
  w1 : ∀ c t fl, h.cl c = some (t, fl) → t < h.n
  w2 : ∀ b cs c, h.get b = some (.row cs (some c)) → c < h.m
  lon : lo ≤ h.n
theorem Pt.ok.lt {lo : Nat} {h : Heap} {o : Pt} (k : o.ok lo h) {b : Nat} (hb : o.blk = some b) : b < h.n ∧ lo ≤ b ∧ ∃ x, h.get b = some x := by
  cases o with
  | box b' cs => cases hb; exact ⟨get_lt k.2, k.1, _, k.2⟩
  | arr v e c xs =>
    obtain ⟨b', sp, rfl, h1, h2, _⟩ := k
    cases hb; exact ⟨get_lt h2, h1, _, h2⟩
  | gro v e xs =>
    obtain ⟨_, _, ⟨rfl, _⟩ | ⟨b', c, fl, rfl, h1, h2, _⟩ | ⟨b', rfl, h1, h2⟩⟩ := k
    · cases hb
    · cases hb; exact ⟨get_lt h2, h1, _, h2⟩
    · cases hb; exact ⟨get_lt h2, h1, _, h2⟩
  | map v es =>
    obtain ⟨b', es', t, rfl, h1, h2, _⟩ := k
    cases hb; exact ⟨get_lt h2, h1, _, h2⟩
theorem mem_blks {O : List Pt} {b : Nat} : b ∈ blks O ↔ ∃ o ∈ O, o.blk = some b := by simp [blks, List.mem_filterMap]
theorem Pt.ok.keep {lo : Nat} {h h' : Heap} {o : Pt} (k : o.ok lo h) (hg : ∀ b, o.blk = some b → h'.get b = h.get b) (hc : ∀ b c fl, o.blk = some b → h.cl c = some (b, fl) → h'.cl c = h.cl c) : o.ok lo h' := by
  cases o with
  | box b cs => exact ⟨k.1, (hg b rfl).trans k.2⟩
  | arr v e c xs =>
    obtain ⟨b, sp, rfl, h1, h2, h3⟩ := k
    exact ⟨b, sp, rfl, h1, (hg b rfl).trans h2, h3⟩
  | gro v e xs =>
    obtain ⟨k1, k2, ⟨rfl, k3⟩ | ⟨b, c, fl, rfl, h1, h2, h3, h4⟩ | ⟨b, rfl, h1, h2⟩⟩ := k
    · exact ⟨k1, k2, .inl ⟨rfl, k3⟩⟩
    · exact ⟨k1, k2, .inr (.inl ⟨b, c, fl, rfl, h1, (hg b rfl).trans h2, (hc b c fl rfl h3).trans h3, h4⟩)⟩
    · exact ⟨k1, k2, .inr (.inr ⟨b, rfl, h1, (hg b rfl).trans h2⟩)⟩
  | map v es =>
    obtain ⟨b, es', t, rfl, h1, h2, h3⟩ := k
    exact ⟨b, es', t, rfl, h1, (hg b rfl).trans h2, h3⟩
theorem Mem.change {lo : Nat} {Z : Vw} {O O' : List Pt} {h h' : Heap} (k : Mem lo Z O h) (T : Nat → Prop) (hT : ∀ b, T b → b ∈ blks O) (hn : h.n ≤ h'.n)
    (hg : ∀ b, b < h.n → ¬ T b → h'.get b = h.get b) (hc : ∀ c, c < h.m → (∀ t fl, h.cl c = some (t, fl) → ¬ T t) → h'.cl c = h.cl c)
    (hO : ∀ o ∈ O', o.ok lo h' ∨ (o ∈ O ∧ ∀ b, o.blk = some b → ¬ T b)) (hnd : (blks O').Nodup) (hb : ∀ b ∈ blks O', b ∈ blks O ∨ h.n ≤ b)
    (w1 : ∀ c t fl, h'.cl c = some (t, fl) → t < h'.n) (w2 : ∀ b cs c, h'.get b = some (.row cs (some c)) → c < h'.m) : Mem lo Z O' h' where
  own o ho := by
    rcases hO o ho with h1 | ⟨h1, h2⟩
    · exact h1
    · refine (k.own o h1).keep (fun b e => hg b ((k.own o h1).lt e).1 (h2 b e)) (fun b c fl e ec => hc c (Heap.cl_lt ec) fun t fl' et => ?_)
      rw [ec] at et; cases et; exact h2 b e
  nd := hnd
  z b x hx := by
    have hz := k.z b x hx
    have hno : ∀ t, t < h.n → t ∉ blks O → t ∉ blks O' := fun t ht hto hto' => by
      rcases hb t hto' with h1 | h1
      · exact hto h1
      · omega
    cases x with
    | row cs =>
      obtain ⟨h1, h2, h3⟩ := hz
      have hbn := cells_lt h1
      have hgb := hg b hbn (fun ht => h2 (hT b ht))
      have hcl : ∀ cs' c, h.get b = some (.row cs' (some c)) → h'.cl c = h.cl c := fun cs' c e => by
        obtain ⟨t, fl, e1, e2⟩ := h3 cs' c e
        exact hc c (Heap.cl_lt e1) fun t' fl' et => by rw [e1] at et; cases et; exact fun ht => e2 (hT _ ht)
      refine ⟨?_, hno b hbn h2, fun cs' c e => ?_⟩
      · rw [← h1]; exact Heap.cells_congr hgb fun c cs' e => hcl cs' c e
      · rw [hgb] at e
        obtain ⟨t, fl, e1, e2⟩ := h3 cs' c e
        exact ⟨t, fl, (hcl cs' c e).trans e1, hno t (k.w1 c t fl e1) e2⟩
    | map es =>
      obtain ⟨h2, es', t, h1, h3⟩ := hz
      have hbn := get_lt h1
      exact ⟨hno b hbn h2, es', t, (hg b hbn (fun ht => h2 (hT b ht))).trans h1, h3⟩
  w1 := w1
  w2 := w2
  lon := Nat.le_trans k.lon hn
inductive At : List Pt → Pt → (Pt → List Pt) → List Pt → Prop
  | here {o : Pt} {S : List Pt} : At (o :: S) o (fun x => x :: S) S
  | there {x o : Pt} {S g : List Pt} {f : Pt → List Pt} : At S o f g → At (x :: S) o (fun y => x :: f y) (x :: g)
theorem At.perm {O g : List Pt} {o : Pt} {f : Pt → List Pt} (k : At O o f g) : O.Perm (o :: g) ∧ ∀ x, (f x).Perm (x :: g) := by
  induction k with
  | here => exact ⟨.refl _, fun _ => .refl _⟩
  | there k ih => exact ⟨(List.Perm.cons _ ih.1).trans (.swap _ _ _), fun y => (List.Perm.cons _ (ih.2 y)).trans (.swap _ _ _)⟩
theorem Mem.perm {lo : Nat} {Z : Vw} {O O' : List Pt} {h : Heap} (k : Mem lo Z O h) (p : O.Perm O') : Mem lo Z O' h := by
  have hp : (blks O).Perm (blks O') := p.filterMap _
  have hm : ∀ b, b ∉ blks O → b ∉ blks O' := fun b hb hb' => hb (hp.mem_iff.2 hb')
  refine ⟨fun o ho => k.own o (p.mem_iff.2 ho), hp.nodup_iff.1 k.nd, fun b x hx => ?_, k.w1, k.w2, k.lon⟩
  have hz := k.z b x hx
  cases x with
  | row cs => exact ⟨hz.1, hm _ hz.2.1, fun cs' c e => let ⟨t, fl, e1, e2⟩ := hz.2.2 cs' c e; ⟨t, fl, e1, hm _ e2⟩⟩
  | map es => exact ⟨hm _ hz.1, hz.2⟩
theorem Mem.drop {lo : Nat} {Z : Vw} {o : Pt} {O : List Pt} {h : Heap} (k : Mem lo Z (o :: O) h) : Mem lo Z O h := by
  have hs : ∀ b, b ∉ blks (o :: O) → b ∉ blks O := fun b hb hb' => hb (by
    obtain ⟨x, hx, e⟩ := mem_blks.1 hb'
    exact mem_blks.2 ⟨x, List.mem_cons_of_mem _ hx, e⟩)
  refine ⟨fun x hx => k.own x (List.mem_cons_of_mem _ hx), ?_, fun b x hx => ?_, k.w1, k.w2, k.lon⟩
  · have := k.nd
    unfold blks at this ⊢
    rw [List.filterMap_cons] at this
    split at this
    · exact this
    · exact (List.nodup_cons.1 this).2
  · have hz := k.z b x hx
    cases x with
    | row cs => exact ⟨hz.1, hs _ hz.2.1, fun cs' c e => let ⟨t, fl, e1, e2⟩ := hz.2.2 cs' c e; ⟨t, fl, e1, hs _ e2⟩⟩
    | map es => exact ⟨hs _ hz.1, hz.2⟩
theorem blks_cons (o : Pt) (O : List Pt) : blks (o :: O) = (match o.blk with | some b => b :: blks O | none => blks O) := by
  unfold blks
  rw [List.filterMap_cons]
  cases o.blk <;> rfl
theorem Mem.swap {lo : Nat} {Z : Vw} {o o' : Pt} {O : List Pt} {h h' : Heap} (k : Mem lo Z (o :: O) h) (hn : h.n ≤ h'.n) (hok : o'.ok lo h')
    (hg : ∀ b, b < h.n → o.blk ≠ some b → h'.get b = h.get b) (hc : ∀ c, c < h.m → (∀ t fl, h.cl c = some (t, fl) → o.blk ≠ some t) → h'.cl c = h.cl c)
    (hb : ∀ b, o'.blk = some b → o.blk = some b ∨ h.n ≤ b)
    (w1 : ∀ c t fl, h'.cl c = some (t, fl) → t < h'.n) (w2 : ∀ b cs c, h'.get b = some (.row cs (some c)) → c < h'.m) : Mem lo Z (o' :: O) h' := by
  have hnd := k.nd
  rw [blks_cons] at hnd
  have hO : ∀ x ∈ O, ∀ b, x.blk = some b → o.blk ≠ some b ∧ b < h.n := fun x hx b e => by
    refine ⟨fun eo => ?_, ((k.own x (List.mem_cons_of_mem _ hx)).lt e).1⟩
    rw [eo] at hnd
    exact (List.nodup_cons.1 hnd).1 (mem_blks.2 ⟨x, hx, e⟩)
  refine k.change (fun b => o.blk = some b) (fun b e => mem_blks.2 ⟨o, List.mem_cons_self, e⟩) hn hg hc (fun x hx => ?_) ?_ (fun b e => ?_) w1 w2
  · rcases List.mem_cons.1 hx with rfl | hx
    · exact .inl hok
    · exact .inr ⟨List.mem_cons_of_mem _ hx, fun b e => (hO x hx b e).1⟩
  · have hnd2 : (blks O).Nodup := by
      split at hnd
      · exact (List.nodup_cons.1 hnd).2
      · exact hnd
    rw [blks_cons]
    split
    · rename_i b e
      refine List.nodup_cons.2 ⟨fun hm => ?_, hnd2⟩
      obtain ⟨x, hx, e2⟩ := mem_blks.1 hm
      obtain ⟨q1, q2⟩ := hO x hx b e2
      rcases hb b e with h1 | h1
      · exact q1 h1
      · omega
    · exact hnd2
  · obtain ⟨x, hx, e2⟩ := mem_blks.1 e
    rcases List.mem_cons.1 hx with rfl | hx
    · rcases hb b e2 with h1 | h1
      · exact .inl (mem_blks.2 ⟨o, List.mem_cons_self, h1⟩)
      · exact .inr h1
    · exact .inl (mem_blks.2 ⟨x, List.mem_cons_of_mem _ hx, e2⟩)
theorem Mem.nilpart {lo : Nat} {Z : Vw} {o : Pt} {O : List Pt} {h : Heap} (k : Mem lo Z O h) (hok : o.ok lo h) (hb : o.blk = none) : Mem lo Z (o :: O) h := by
  have e : blks (o :: O) = blks O := by rw [blks_cons, hb]
  refine ⟨fun x hx => ?_, by rw [e]; exact k.nd, fun b x hx => ?_, k.w1, k.w2, k.lon⟩
  · rcases List.mem_cons.1 hx with rfl | hx
    · exact hok
    · exact k.own x hx
  · have hz := k.z b x hx
    cases x with
    | row cs => unfold zok; rw [e]; exact hz
    | map es => unfold zok; rw [e]; exact hz
theorem Mem.gro0 {lo : Nat} {Z : Vw} {O : List Pt} {h : Heap} (k : Mem lo Z O h) {e : Nat} (he : 0 < e) : Mem lo Z (.gro (.slice none 0 0) e [] :: O) h :=
  k.nilpart ⟨fun x hx => absurd hx (by simp), he, .inl ⟨rfl, rfl⟩⟩ rfl
theorem Mem.push {lo : Nat} {Z : Vw} {o' : Pt} {O : List Pt} {h h' : Heap} (k : Mem lo Z O h) (hn : h.n ≤ h'.n) (hok : o'.ok lo h') (hg : ∀ b, b < h.n → h'.get b = h.get b) (hc : ∀ c, c < h.m → h'.cl c = h.cl c)
    (hb : ∀ b, o'.blk = some b → h.n ≤ b) (w1 : ∀ c t fl, h'.cl c = some (t, fl) → t < h'.n) (w2 : ∀ b cs c, h'.get b = some (.row cs (some c)) → c < h'.m) : Mem lo Z (o' :: O) h' :=
  (k.gro0 (e := 1) (by omega)).swap hn hok (fun b hb' _ => hg b hb') (fun c hc' _ => hc c hc') (fun b e => .inr (hb b e)) w1 w2
theorem new_w1 {h : Heap} {cs : List Value} (w1 : ∀ c t fl, h.cl c = some (t, fl) → t < h.n) : ∀ c t fl, (h.new cs).cl c = some (t, fl) → t < (h.new cs).n := fun c t fl e => Nat.lt_succ_of_lt (w1 c t fl e)
theorem new_w2 {h : Heap} {cs : List Value} (w2 : ∀ b cs c, h.get b = some (.row cs (some c)) → c < h.m) : ∀ b cs' c, (h.new cs).get b = some (.row cs' (some c)) → c < (h.new cs).m := fun b cs' c e => by
  rw [Heap.get_new] at e
  split at e
  · cases e
  · exact w2 b cs' c e
theorem Mem.box {lo : Nat} {Z : Vw} {O : List Pt} {h : Heap} (k : Mem lo Z O h) (cs : List Value) : Mem lo Z (.box h.n cs :: O) (h.new cs) :=
  k.push (Nat.le_succ _) ⟨k.lon, get_top h cs⟩ (fun b hb => Hm.get_new h cs hb) (fun c hc => rfl) (fun b e => by cases e; exact Nat.le_refl _) (new_w1 k.w1) (new_w2 k.w2)
theorem Mem.arr {lo : Nat} {Z : Vw} {O : List Pt} {h : Heap} (k : Mem lo Z O h) {e c : Nat} {xs : List (List Value)} {sp : List Value} (hx : ∀ x ∈ xs, x.length = e) (hl : xs.length ≤ c) (hs : sp.length = (c - xs.length) * e) :
    Mem lo Z (.arr (.slice (some ⟨h.n, 0, none⟩) xs.length c) e c xs :: O) (h.new (xs.flatten ++ sp)) :=
  k.push (Nat.le_succ _) ⟨h.n, sp, rfl, k.lon, get_top h _, hl, hs, hx⟩ (fun b hb => Hm.get_new h _ hb) (fun c hc => rfl) (fun b e => by cases e; exact Nat.le_refl _) (new_w1 k.w1) (new_w2 k.w2)
theorem Mem.mkmap {lo : Nat} {Z : Vw} {O : List Pt} {h : Heap} (k : Mem lo Z O h) : Mem lo Z (.map (.map (some h.n)) [] :: O) h.newMap :=
  k.push (Nat.le_succ _) ⟨h.n, [], 0, rfl, k.lon, by rw [Heap.get_newMap, if_pos rfl], rfl⟩ (fun b hb => by rw [Heap.get_newMap, if_neg (Nat.ne_of_lt hb)]) (fun c hc => rfl) (fun b e => by cases e; exact Nat.le_refl _)
    (fun c t fl e => Nat.lt_succ_of_lt (k.w1 c t fl e)) (fun b cs' c e => by
      rw [Heap.get_newMap] at e
      split at e
      · cases e
      · exact k.w2 b cs' c e)
theorem Mem.newC {lo : Nat} {Z : Vw} {O : List Pt} {h : Heap} (k : Mem lo Z O h) {e : Nat} (he : 0 < e) {xs : List (List Value)} (hx : ∀ x ∈ xs, x.length = e) :
    Mem lo Z (.gro (.slice (some ⟨h.n, 0, some e⟩) xs.length xs.length) e xs :: O) (h.newC xs.flatten) := by
  refine k.push (Nat.le_succ _) ⟨hx, he, .inr (.inl ⟨h.n, h.m, 0, rfl, k.lon, by rw [Heap.get_newC, if_pos rfl], by rw [Heap.cl_newC, if_pos rfl], Nat.zero_le _⟩)⟩
    (fun b hb => by rw [Heap.get_newC, if_neg (Nat.ne_of_lt hb)]) (fun c hc => by rw [Heap.cl_newC, if_neg (Nat.ne_of_lt hc)]) (fun b e => by cases e; exact Nat.le_refl _) (fun c t fl e => ?_) (fun b cs' c e => ?_)
  · rw [Heap.cl_newC] at e
    split at e
    · cases e; exact Nat.lt_succ_self _
    · exact Nat.lt_succ_of_lt (k.w1 c t fl e)
  · rw [Heap.get_newC] at e
    split at e
    · cases e; exact Nat.lt_succ_self _
    · exact Nat.lt_succ_of_lt (k.w2 b cs' c e)
theorem Mem.extC {lo : Nat} {Z : Vw} {O : List Pt} {h : Heap} {b c fl fl' n cp : Nat} {e : Nat} {xs xs' : List (List Value)} (k : Mem lo Z (.gro (.slice (some ⟨b, 0, some e⟩) n cp) e xs :: O) h) (hcl : h.cl c = some (b, fl)) (hfl : fl' ≤ h.n)
    (hx : ∀ x ∈ xs', x.length = e) : Mem lo Z (.gro (.slice (some ⟨h.n, 0, some e⟩) xs'.length xs'.length) e xs' :: O) (h.extC c fl' xs'.flatten) := by
  have he : 0 < e := (k.own _ List.mem_cons_self).2.1
  refine k.swap (Nat.le_succ _) ⟨hx, he, .inr (.inl ⟨h.n, c, fl', rfl, k.lon, by rw [Heap.get_extC, if_pos rfl], by rw [Heap.cl_extC hcl, if_pos rfl], hfl⟩)⟩
    (fun b' hb _ => by rw [Heap.get_extC, if_neg (Nat.ne_of_lt hb)]) (fun c' hc hne => ?_) (fun b' e => by cases e; exact .inr (Nat.le_refl _)) (fun c' t fl e => ?_) (fun b' cs' c' e => ?_)
  · rw [Heap.cl_extC hcl]
    split
    · rename_i ec
      subst ec
      exact absurd rfl (hne b fl hcl)
    · rfl
  · rw [Heap.cl_extC hcl] at e
    split at e
    · cases e; exact Nat.lt_succ_self _
    · exact Nat.lt_succ_of_lt (k.w1 c' t _ e)
  · rw [Heap.get_extC] at e
    split at e
    · cases e; exact (show c < h.m from Heap.cl_lt hcl)
    · exact k.w2 b' cs' c' e
theorem setB_w2 {h : Heap} {b : Nat} {y x : HB} (hb : h.get b = some y) (w2 : ∀ b cs c, h.get b = some (.row cs (some c)) → c < h.m) (hx : ∀ cs c, x = .row cs (some c) → c < h.m) : ∀ b' cs' c, (h.setB b x).get b' = some (.row cs' (some c)) → c < (h.setB b x).m := fun b' cs' c e => by
  rw [Heap.get_setB hb] at e
  split at e
  · exact hx cs' c (Option.some.inj e)
  · exact w2 b' cs' c e
theorem Mem.setRow {lo : Nat} {Z : Vw} {o o' : Pt} {O : List Pt} {h : Heap} {b : Nat} {cs cs' : List Value} (k : Mem lo Z (o :: O) h) (hb : o.blk = some b) (hb' : o'.blk = some b) (hr : h.get b = some (.row cs none)) (hok : o'.ok lo (h.setB b (.row cs' none))) :
    Mem lo Z (o' :: O) (h.setB b (.row cs' none)) :=
  k.swap (Nat.le_refl _) hok (fun b' _ hne => by rw [Heap.get_setB hr, if_neg (fun e => hne (by rw [hb, e]))]) (fun c _ _ => rfl) (fun b'' e => .inl (by rw [hb, ← hb', e])) (fun c t fl e => k.w1 c t fl e) (setB_w2 hr k.w2 fun cs c e => by cases e)
theorem Mem.setMap {lo : Nat} {Z : Vw} {o o' : Pt} {O : List Pt} {h : Heap} {b : Nat} {x y : HB} (k : Mem lo Z (o :: O) h) (hb : o.blk = some b) (hb' : o'.blk = some b) (hr : h.get b = some y) (hx : ∀ cs c, x ≠ .row cs (some c)) (hok : o'.ok lo (h.setB b x)) :
    Mem lo Z (o' :: O) (h.setB b x) :=
  k.swap (Nat.le_refl _) hok (fun b' _ hne => by rw [Heap.get_setB hr, if_neg (fun e => hne (by rw [hb, e]))]) (fun c _ _ => rfl) (fun b'' e => .inl (by rw [hb, ← hb', e])) (fun c t fl e => k.w1 c t fl e) (setB_w2 hr k.w2 fun cs c e => absurd e (hx cs c))
theorem Mem.setGro {lo : Nat} {Z : Vw} {O : List Pt} {h : Heap} {b c fl n cp e : Nat} {xs xs' : List (List Value)} {cs : List Value} (k : Mem lo Z (.gro (.slice (some ⟨b, 0, some e⟩) n cp) e xs :: O) h) (hr : h.get b = some (.row cs (some c))) (hcl : h.cl c = some (b, fl))
    (hn : n = xs'.length) (hcp : cp = xs'.length) (hx : ∀ x ∈ xs', x.length = e) : Mem lo Z (.gro (.slice (some ⟨b, 0, some e⟩) n cp) e xs' :: O) ((h.setB b (.row xs'.flatten (some c))).setC c (b, b)) := by
  have hok := k.own _ List.mem_cons_self
  have hlo := (hok.lt (b := b) rfl)
  have hcl2 : (h.setB b (.row xs'.flatten (some c))).cl c = some (b, fl) := hcl
  subst hn; subst hcp
  refine k.swap (Nat.le_refl _) ⟨hx, hok.2.1, .inr (.inl ⟨b, c, b, rfl, hlo.2.1, ?_, ?_, Nat.le_refl _⟩)⟩ (fun b' _ hne => ?_) (fun c' hc hne => ?_) (fun b' e => .inl e) (fun c' t fl e => ?_) (fun b' cs' c' e => ?_)
  · rw [Heap.get_setC, Heap.get_setB hr, if_pos rfl]
  · rw [Heap.cl_setC hcl2, if_pos rfl]
  · rw [Heap.get_setC, Heap.get_setB hr, if_neg (fun e => hne (by rw [e]; rfl))]
  · rw [Heap.cl_setC hcl2]
    split
    · rename_i ec
      subst ec
      exact absurd rfl (hne b _ hcl)
    · rfl
  · rw [Heap.cl_setC hcl2] at e
    split at e
    · cases e; exact hlo.1
    · exact k.w1 c' t _ e
  · rw [Heap.get_setC, Heap.get_setB hr] at e
    split at e
    · cases e; exact (show c < h.m from Heap.cl_lt hcl)
    · exact k.w2 b' cs' c' e
theorem Mem.arrGro {lo : Nat} {Z : Vw} {O : List Pt} {h : Heap} {v : Value} {e c : Nat} {xs : List (List Value)} (k : Mem lo Z (.arr v e c xs :: O) h) (hc : c = xs.length) (he : 0 < e) : Mem lo Z (.gro v e xs :: O) h := by
  obtain ⟨b, sp, rfl, h1, h2, h3, h4, h5⟩ := k.own _ List.mem_cons_self
  subst hc
  have : sp = [] := List.length_eq_zero_iff.1 (by rw [h4]; simp)
  subst this
  rw [List.append_nil] at h2
  exact k.swap (o' := .gro (.slice (some ⟨b, 0, none⟩) xs.length xs.length) e xs) (Nat.le_refl _) ⟨h5, he, .inr (.inr ⟨b, rfl, h1, h2⟩)⟩ (fun _ _ _ => rfl) (fun _ _ _ => rfl) (fun b' e' => .inl e') k.w1 k.w2
class Fz (Z : semiOutParam Vw) (e : outParam Nat) (v : Value) (xs : outParam (List (List Value))) : Prop where
  all : ∀ x ∈ xs, x.length = e
  out : (v = .slice none 0 0 ∧ xs = []) ∨ ∃ b o s c cs, v = .slice (some ⟨b, o, s⟩) xs.length c ∧ xs.length ≤ c ∧ (s = none ∨ s = some e) ∧ Z b = some (.row cs) ∧ o + xs.length * e ≤ cs.length ∧ (cs.drop o).take (xs.length * e) = xs.flatten
theorem Fz.le {Z Z' : Vw} {e : Nat} {v : Value} {xs : List (List Value)} (k : Fz Z e v xs) (hz : Z.le Z') : Fz Z' e v xs := by
  obtain ⟨k1, k2 | ⟨b, o, s, c, cs, rfl, h1, h2, h3, h4⟩⟩ := k
  · exact ⟨k1, .inl k2⟩
  · exact ⟨k1, .inr ⟨b, o, s, c, cs, rfl, h1, h2, hz _ _ h3, h4⟩⟩
theorem Fz.nil (Z : Vw) (e : Nat) : Fz Z e (.slice none 0 0) [] := ⟨fun x hx => absurd hx (by simp), .inl ⟨rfl, rfl⟩⟩
theorem flatten_len {e : Nat} : ∀ {xs : List (List Value)}, (∀ x ∈ xs, x.length = e) → xs.flatten.length = xs.length * e
  | [], _ => by simp
  | x :: xs, h => by
    rw [List.flatten_cons, List.length_append, h x (by simp), flatten_len fun y hy => h y (by simp [hy]), List.length_cons, Nat.succ_mul]; omega
theorem Mem.freeze {lo : Nat} {Z : Vw} {o : Pt} {O : List Pt} {h : Heap} {b : Nat} {cs : List Value} (k : Mem lo Z (o :: O) h) (hb : o.blk = some b) (hcs : h.cells b = some cs)
    (hcl : ∀ cs' c, h.get b = some (.row cs' (some c)) → ∃ fl, h.cl c = some (b, fl)) : ∃ Z' : Vw, Z.le Z' ∧ Z' b = some (.row cs) ∧ Mem lo Z' O h := by
  have hnd := k.nd
  rw [blks_cons, hb] at hnd
  have hbO := (List.nodup_cons.1 hnd).1
  have kd := k.drop
  have hZ : Z b = none := by
    cases e : Z b with
    | none => rfl
    | some x =>
      have hz := k.z b x e
      have hm : b ∈ blks (o :: O) := mem_blks.2 ⟨o, List.mem_cons_self, hb⟩
      cases x with
      | row cs => exact absurd hm hz.2.1
      | map es => exact absurd hm hz.1
  refine ⟨fun x => if x = b then some (.row cs) else Z x, fun x y e => ?_, by simp, kd.own, kd.nd, fun x y e => ?_, kd.w1, kd.w2, kd.lon⟩
  · try dsimp only
    split
    · rename_i e2; subst e2; rw [hZ] at e; cases e
    · exact e
  · try dsimp only at e
    split at e
    · rename_i e2; subst e2; cases e
      exact ⟨hcs, hbO, fun cs' c e => let ⟨fl, h1⟩ := hcl cs' c e; ⟨x, fl, h1, hbO⟩⟩
    · exact kd.z x y e
theorem cells_row {h : Heap} {b : Nat} {cs : List Value} (e : h.get b = some (.row cs none)) : h.cells b = some cs := by unfold Heap.cells; rw [e]
theorem cells_cls {h : Heap} {b c t fl : Nat} {cs : List Value} (e : h.get b = some (.row cs (some c))) (ec : h.cl c = some (t, fl)) (hf : fl ≤ b) : h.cells b = some cs := by
  unfold Heap.cells
  simp only [e, ec, if_pos hf]
theorem Mem.freezeArr {lo : Nat} {Z : Vw} {v : Value} {e c : Nat} {xs : List (List Value)} {O : List Pt} {h : Heap} (k : Mem lo Z (.arr v e c xs :: O) h) : ∃ Z' : Vw, Z.le Z' ∧ Fz Z' e v xs ∧ Mem lo Z' O h := by
  obtain ⟨b, sp, rfl, h1, h2, h3, h4, h5⟩ := k.own _ List.mem_cons_self
  obtain ⟨Z', q1, q2, q3⟩ := k.freeze (b := b) rfl (cells_row h2) (fun cs' c e => by rw [h2] at e; cases e)
  refine ⟨Z', q1, ⟨h5, .inr ⟨b, 0, none, c, _, rfl, h3, .inl rfl, q2, ?_, ?_⟩⟩, q3⟩
  · rw [List.length_append, flatten_len h5]; omega
  · rw [List.drop_zero, ← flatten_len h5, List.take_left]
theorem Mem.freezeGro {lo : Nat} {Z : Vw} {v : Value} {e : Nat} {xs : List (List Value)} {O : List Pt} {h : Heap} (k : Mem lo Z (.gro v e xs :: O) h) : ∃ Z' : Vw, Z.le Z' ∧ Fz Z' e v xs ∧ Mem lo Z' O h := by
  obtain ⟨h5, he, ⟨rfl, rfl⟩ | ⟨b, c, fl, rfl, h1, h2, h3, h4⟩ | ⟨b, rfl, h1, h2⟩⟩ := k.own _ List.mem_cons_self
  · exact ⟨Z, .refl _, Fz.nil _ _, k.drop⟩
  rotate_left
  · obtain ⟨Z', q1, q2, q3⟩ := k.freeze (b := b) rfl (cells_row h2) (fun cs' c e => by rw [h2] at e; cases e)
    refine ⟨Z', q1, ⟨h5, .inr ⟨b, 0, none, _, _, rfl, Nat.le_refl _, .inl rfl, q2, ?_, ?_⟩⟩, q3⟩
    · rw [flatten_len h5]; omega
    · rw [List.drop_zero, ← flatten_len h5, List.take_length]
  · obtain ⟨Z', q1, q2, q3⟩ := k.freeze (b := b) rfl (cells_cls h2 h3 h4) (fun cs' c' e => by rw [h2] at e; cases e; exact ⟨fl, h3⟩)
    refine ⟨Z', q1, ⟨h5, .inr ⟨b, 0, some e, _, _, rfl, Nat.le_refl _, .inr rfl, q2, ?_, ?_⟩⟩, q3⟩
    · rw [flatten_len h5]; omega
    · rw [List.drop_zero, ← flatten_len h5, List.take_length]
theorem flat_at {e : Nat} : ∀ {xs : List (List Value)} {j : Nat} {x : List Value}, (∀ x ∈ xs, x.length = e) → xs[j]? = some x → (xs.flatten.drop (j * e)).take e = x
  | x0 :: xs, 0, x, h, hj => by
    simp only [List.getElem?_cons_zero, Option.some.injEq] at hj
    subst hj
    have h0 := h x0 (by simp)
    rw [List.flatten_cons, Nat.zero_mul, List.drop_zero, List.take_append_of_le_length (Nat.le_of_eq h0.symm), List.take_of_length_le (Nat.le_of_eq h0)]
  | x0 :: xs, j + 1, x, h, hj => by
    have h0 := h x0 (by simp)
    have e1 : (j + 1) * e - e = j * e := by rw [Nat.succ_mul]; omega
    rw [List.flatten_cons, List.drop_append, List.drop_of_length_le (by rw [h0, Nat.succ_mul]; omega), List.nil_append, h0, e1]
    exact flat_at (fun y hy => h y (by simp [hy])) (by simpa using hj)
theorem take_drop_sub {l l' : List Value} {o n k m : Nat} (h : (l.drop o).take n = l') (hk : k + m ≤ n) : (l.drop (o + k)).take m = (l'.drop k).take m := by
  subst h
  rw [List.drop_take, List.drop_drop, List.take_take, Nat.min_eq_left (by omega)]
theorem rd_of {h : Heap} {b o n : Nat} {cs : List Value} (hc : h.cells b = some cs) (hl : o + n ≤ cs.length) : h.rd b o n = some ((cs.drop o).take n) := by
  simp only [Heap.rd, hc, if_pos hl]
theorem rd1_of {h : Heap} {b o : Nat} {cs : List Value} {v : Value} (hc : h.cells b = some cs) (hv : cs[o]? = some v) : h.rd1 b o = some v := by simp only [Heap.rd1, hc, hv]
theorem rd1_rd {h : Heap} {b o n k : Nat} {x : List Value} {v : Value} (hr : h.rd b o n = some x) (hv : x[k]? = some v) : h.rd1 b (o + k) = some v := by
  unfold Heap.rd at hr
  split at hr
  · rename_i cs hc
    split at hr
    · cases hr
      refine rd1_of hc ?_
      rw [List.getElem?_take] at hv
      split at hv
      · rwa [List.getElem?_drop] at hv
      · cases hv
    · cases hr
  · cases hr
theorem rd_rd {h : Heap} {b o n k m : Nat} {x : List Value} (hr : h.rd b o n = some x) (hk : k + m ≤ n) : h.rd b (o + k) m = some ((x.drop k).take m) := by
  unfold Heap.rd at hr
  split at hr
  · rename_i cs hc
    split at hr
    · cases hr
      rw [rd_of hc (by omega), take_drop_sub rfl hk]
    · cases hr
  · cases hr
def Reads (h : Heap) (e : Nat) (v : Value) (xs : List (List Value)) : Prop :=
  (∀ x ∈ xs, x.length = e) ∧ ∃ a c, v = .slice a xs.length c ∧ (xs ≠ [] → ∃ s, a = some ⟨bb v, oo v, s⟩ ∧ h.rd (bb v) (oo v) (xs.length * e) = some xs.flatten)
theorem Reads.at {h : Heap} {e : Nat} {v : Value} {xs : List (List Value)} (k : Reads h e v xs) {j : Nat} {x : List Value} (hj : xs[j]? = some x) : (∃ s c, v = .slice (some ⟨bb v, oo v, s⟩) xs.length c) ∧ j < xs.length ∧ x.length = e ∧ h.rd (bb v) (oo v + j * e) e = some x := by
  obtain ⟨k1, a, c, k2, k3⟩ := k
  have hjl : j < xs.length := by
    rcases Nat.lt_or_ge j xs.length with h | h
    · exact h
    · rw [List.getElem?_eq_none h] at hj; cases hj
  obtain ⟨s, rfl, hr⟩ := k3 (fun e => by subst e; simp at hjl)
  have hle : j * e + e ≤ xs.length * e := by rw [← Nat.succ_mul]; exact Nat.mul_le_mul_right _ hjl
  refine ⟨⟨s, c, k2⟩, hjl, k1 x (List.mem_of_getElem? hj), ?_⟩
  rw [rd_rd hr hle, flat_at k1 hj]
theorem reads_of {h : Heap} {b o n c e : Nat} {s : Option Nat} {cs : List Value} {xs : List (List Value)} (hn : n = xs.length) (hc : h.cells b = some cs) (hl : o + xs.length * e ≤ cs.length) (hf : (cs.drop o).take (xs.length * e) = xs.flatten) (hx : ∀ x ∈ xs, x.length = e) :
    Reads h e (.slice (some ⟨b, o, s⟩) n c) xs := by
  subst hn
  refine ⟨hx, _, _, rfl, fun _ => ⟨s, rfl, ?_⟩⟩
  show h.rd b o (xs.length * e) = _
  rw [rd_of hc hl, hf]
theorem Fz.reads {lo : Nat} {Z : Vw} {O : List Pt} {h : Heap} {e : Nat} {v : Value} {xs : List (List Value)} (k : Fz Z e v xs) (hm : Mem lo Z O h) : Reads h e v xs := by
  obtain ⟨hx, ⟨rfl, rfl⟩ | ⟨b, o, s, c, cs, rfl, h1, h2, h3, h4, h5⟩⟩ := k
  · exact ⟨hx, _, _, rfl, fun h => absurd rfl h⟩
  · exact reads_of rfl (hm.z b _ h3).1 h4 h5 hx
theorem arr_reads {lo : Nat} {Z : Vw} {O : List Pt} {h : Heap} {e c : Nat} {v : Value} {xs : List (List Value)} (hm : Mem lo Z O h) (ho : .arr v e c xs ∈ O) : Reads h e v xs := by
  obtain ⟨b, sp, rfl, h1, h2, h3, h4, h5⟩ := hm.own _ ho
  refine reads_of rfl (cells_row h2) ?_ ?_ h5
  · rw [List.length_append, flatten_len h5]; omega
  · rw [List.drop_zero, ← flatten_len h5, List.take_left]
theorem gro_reads {lo : Nat} {Z : Vw} {O : List Pt} {h : Heap} {e : Nat} {v : Value} {xs : List (List Value)} (hm : Mem lo Z O h) (ho : .gro v e xs ∈ O) : Reads h e v xs := by
  obtain ⟨h5, he, ⟨rfl, rfl⟩ | ⟨b, c, fl, rfl, h1, h2, h3, h4⟩ | ⟨b, rfl, h1, h2⟩⟩ := hm.own _ ho
  · exact ⟨h5, _, _, rfl, fun h => absurd rfl h⟩
  rotate_left
  · refine reads_of rfl (cells_row h2) ?_ ?_ h5
    · rw [flatten_len h5]; omega
    · rw [List.drop_zero, ← flatten_len h5, List.take_length]
  · refine reads_of rfl (cells_cls h2 h3 h4) ?_ ?_ h5
    · rw [flatten_len h5]; omega
    · rw [List.drop_zero, ← flatten_len h5, List.take_length]
theorem flat_set {e o : Nat} {vs sp : List Value} (ho : o + vs.length ≤ e) : ∀ {xs : List (List Value)} {k : Nat} {x : List Value}, (∀ x ∈ xs, x.length = e) → xs[k]? = some x →
    (xs.flatten ++ sp).take (k * e + o) ++ (vs ++ (xs.flatten ++ sp).drop (k * e + o + vs.length)) = (xs.set k (x.take o ++ (vs ++ x.drop (o + vs.length)))).flatten ++ sp
  | x0 :: xs, 0, x, h, hj => by
    simp only [List.getElem?_cons_zero, Option.some.injEq] at hj
    subst hj
    have h0 := h x0 (by simp)
    simp only [Nat.zero_mul, Nat.zero_add, List.flatten_cons, List.set_cons_zero, List.append_assoc]
    rw [List.take_append_of_le_length (by omega), List.drop_append_of_le_length (by omega)]
  | x0 :: xs, k + 1, x, h, hj => by
    have h0 := h x0 (by simp)
    have ih := flat_set (sp := sp) ho (xs := xs) (k := k) (x := x) (fun y hy => h y (by simp [hy])) (by simpa using hj)
    have e1 : (k + 1) * e + o = x0.length + (k * e + o) := by rw [h0, Nat.succ_mul]; omega
    rw [List.set_cons_succ, List.flatten_cons, List.flatten_cons, List.append_assoc, List.append_assoc, ← ih, e1, Nat.add_assoc, List.take_length_add_append, List.drop_length_add_append, List.append_assoc]
end
end Go.Proofs.Ytlidnionbofkaaa.Hm
namespace Go.Proofs.Ytlidnionbofkaaa.Hm.V
noncomputable section
open Go Go.Proofs.Ytlidnionbofkaaa.Hm
set_option linter.all false
set_option linter.unusedSimpArgs false
def XG (F : Nat → Option HFn) (lo : Nat) (op : HOp) (N : Nat) (A : Tab) (Z : Vw) (O : List Pt) (K : Rv → Vw → List Pt → Prop) : Prop :=
  ∀ R σ h, Sl N A σ → Mem lo Z (O ++ R) h → xopR (CallsR F lo) lo σ h op fun r h' => ∃ Z' O', Z.le Z' ∧ Mem lo Z' (O' ++ R) h' ∧ K r Z' O'
def noPan (K : Value → Vw → List Pt → Prop) : Rv → Vw → List Pt → Prop
  | .ret v, Z, O => K v Z O
  | .pan _, _, _ => False
def X (F : Nat → Option HFn) (lo : Nat) (op : HOp) (N : Nat) (A : Tab) (Z : Vw) (O : List Pt) (K : Value → Vw → List Pt → Prop) : Prop := XG F lo op N A Z O (noPan K)
def KT (lo N : Nat) (R : List Pt) (Z : Vw) (K : Tab → Vw → List Pt → Prop) (σ' : List Value) (h' : Heap) : Prop := ∃ A' Z' O', Sl N A' σ' ∧ Z.le Z' ∧ Mem lo Z' (O' ++ R) h' ∧ K A' Z' O'
abbrev KPan := Value → Tab → Vw → List Pt → Prop
def S (F : Nat → Option HFn) (lo : Nat) (o : HOper) (N : Nat) (A : Tab) (Z : Vw) (O : List Pt) (K : Tab → Vw → List Pt → Prop) (KP : KPan) : Prop :=
  ∀ R σ h, Sl N A σ → Mem lo Z (O ++ R) h → stepR (CallsR F lo) lo o σ h (KT lo N R Z K) (fun v h' => KT lo N R Z (KP v) σ h')
def R (F : Nat → Option HFn) (lo : Nat) (ops : List HOper) (N : Nat) (A : Tab) (Z : Vw) (O : List Pt) (K : Tab → Vw → List Pt → Prop) (KP : KPan) : Prop :=
  ∀ R σ h, Sl N A σ → Mem lo Z (O ++ R) h → ropsR (CallsR F lo) lo (KT lo N R Z K) (fun v σ' h' => KT lo N R Z (KP v) σ' h') ops σ h
def D (F : Nat → Option HFn) (lo : Nat) (ops : List HOper) (sched : List (Nat × List Nat)) (N : Nat) (A : Tab) (Z : Vw) (O : List Pt) (K : Tab → Vw → List Pt → Prop) (KP : KPan) : Prop :=
  ∀ R σ h, Sl N A σ → Mem lo Z (O ++ R) h → drwsR (CallsR F lo) lo ops (KT lo N R Z K) (fun v σ' h' => KT lo N R Z (KP v) σ' h') sched σ h
def W (F : Nat → Option HFn) (lo : Nat) (c : HC) (N : Nat) (A : Tab) (Z : Vw) (O : List Pt) (Q : Out → Tab → Vw → List Pt → Prop) : Prop :=
  ∀ R σ h, Sl N A σ → Mem lo Z (O ++ R) h → Runs F lo c σ h fun out σ' h' => KT lo N R Z (Q out) σ' h'
def CallG (F : Nat → Option HFn) (lo k : Nat) (vs : List Value) (Z : Vw) (O : List Pt) (Q : Rv → Vw → List Pt → Prop) : Prop :=
  ∀ R h, Mem lo Z (O ++ R) h → CallsR F lo k vs h fun r h' => ∃ Z' O', Z.le Z' ∧ Mem lo Z' (O' ++ R) h' ∧ Q r Z' O'
def Call (F : Nat → Option HFn) (lo k : Nat) (vs : List Value) (Z : Vw) (O : List Pt) (Q : Value → Vw → List Pt → Prop) : Prop := CallG F lo k vs Z O (noPan Q)
def Upd (lo : Nat) (Z : Vw) (O : List Pt) (K : Vw → List Pt → Prop) : Prop :=
  ∀ R h, Mem lo Z (O ++ R) h → ∃ Z' O', Z.le Z' ∧ Mem lo Z' (O' ++ R) h ∧ K Z' O'
def Rds (lo : Nat) (op : HOp) (N : Nat) (A : Tab) (Z : Vw) (O : List Pt) (v : Value) : Prop :=
  ∀ R σ h, Sl N A σ → Mem lo Z (O ++ R) h → xop lo σ h op = some (v, h)
def Rck (lo : Nat) (ops : List HOper) (N : Nat) (A : Tab) (Z : Vw) (O : List Pt) (js : List Nat) : Prop :=
  ∀ R σ h, Sl N A σ → Mem lo Z (O ++ R) h → recheck lo ops σ h js = true
def Sees (Z : Vw) (O : List Pt) (e : Nat) (v : Value) (xs : List (List Value)) : Prop := ∀ lo R h, Mem lo Z (O ++ R) h → Reads h e v xs
section
variable {F : Nat → Option HFn} {lo N : Nat} {A : Tab} {Z : Vw} {O : List Pt}
theorem At.append {O g R : List Pt} {o : Pt} {f : Pt → List Pt} (k : At O o f g) : At (O ++ R) o (fun x => f x ++ R) (g ++ R) := by
  induction k with
  | here => exact .here
  | there k ih => exact .there ih
theorem At.mem {O g R : List Pt} {o : Pt} {f : Pt → List Pt} {lo : Nat} {Z : Vw} {h : Heap} (k : At O o f g) (m : Mem lo Z (O ++ R) h) : Mem lo Z (o :: (g ++ R)) h := m.perm (At.append k).perm.1
theorem At.back {O g R : List Pt} {o o' : Pt} {f : Pt → List Pt} {lo : Nat} {Z : Vw} {h : Heap} (k : At O o f g) (m : Mem lo Z (o' :: (g ++ R)) h) : Mem lo Z (f o' ++ R) h := m.perm ((At.append (R := R) k).perm.2 o').symm
theorem At.isin {O g R : List Pt} {o : Pt} {f : Pt → List Pt} (k : At O o f g) : o ∈ O ++ R := (At.append (R := R) k).perm.1.mem_iff.2 List.mem_cons_self
theorem Sees.fz {e : Nat} {v : Value} {xs : List (List Value)} (k : Fz Z e v xs) : Sees Z O e v xs := fun lo R h m => k.reads m
theorem Sees.arr {e c : Nat} {v : Value} {xs : List (List Value)} {f : Pt → List Pt} {g : List Pt} (k : At O (.arr v e c xs) f g) : Sees Z O e v xs := fun lo R h m => arr_reads m (At.isin k)
theorem Sees.gro {e : Nat} {v : Value} {xs : List (List Value)} {f : Pt → List Pt} {g : List Pt} (k : At O (.gro v e xs) f g) : Sees Z O e v xs := fun lo R h m => gro_reads m (At.isin k)
theorem CallG.mono {k : Nat} {vs : List Value} {Q Q' : Rv → Vw → List Pt → Prop} (hc : CallG F lo k vs Z O Q) (hq : ∀ v Z' O', Z.le Z' → Q v Z' O' → Q' v Z' O') : CallG F lo k vs Z O Q' :=
  fun R h m => (hc R h m).mono fun r h' ⟨Z', O', k2, k3, k4⟩ => ⟨Z', O', k2, k3, hq _ _ _ k2 k4⟩
theorem Call.mono {k : Nat} {vs : List Value} {Q Q' : Value → Vw → List Pt → Prop} (hc : Call F lo k vs Z O Q) (hq : ∀ v Z' O', Z.le Z' → Q v Z' O' → Q' v Z' O') : Call F lo k vs Z O Q' :=
  CallG.mono hc fun r Z' O' hz q => by
    cases r with
    | ret v => exact hq _ _ _ hz q
    | pan v => exact q
theorem XG.mono {op : HOp} {K K' : Rv → Vw → List Pt → Prop} (k : XG F lo op N A Z O K) (hk : ∀ r Z' O', Z.le Z' → K r Z' O' → K' r Z' O') : XG F lo op N A Z O K' :=
  fun R σ h hs m => xopR_mono (fun _ _ _ _ q => q) (fun r g ⟨Z', O', q1, q2, q3⟩ => ⟨Z', O', q1, q2, hk r Z' O' q1 q3⟩) (k R σ h hs m)
theorem X.mono {op : HOp} {K K' : Value → Vw → List Pt → Prop} (k : X F lo op N A Z O K) (hk : ∀ v Z' O', Z.le Z' → K v Z' O' → K' v Z' O') : X F lo op N A Z O K' :=
  XG.mono k fun r Z' O' hz q => by
    cases r with
    | ret v => exact hk _ _ _ hz q
    | pan v => exact q
theorem KT.trans {R : List Pt} {Z1 : Vw} {K : Tab → Vw → List Pt → Prop} {σ' : List Value} {h' : Heap} (hz : Z.le Z1) (k : KT lo N R Z1 K σ' h') : KT lo N R Z K σ' h' := by
  obtain ⟨A', Z', O', q1, q2, q3, q4⟩ := k
  exact ⟨A', Z', O', q1, hz.trans q2, q3, q4⟩
theorem KT.here {R : List Pt} {K : Tab → Vw → List Pt → Prop} {σ : List Value} {h : Heap} (hs : Sl N A σ) (m : Mem lo Z (O ++ R) h) (k : K A Z O) : KT lo N R Z K σ h := ⟨A, Z, O, hs, .refl _, m, k⟩
theorem KT.mono {R : List Pt} {K K' : Tab → Vw → List Pt → Prop} {σ' : List Value} {h' : Heap} (k : KT lo N R Z K σ' h') (hk : ∀ A' Z' O', Z.le Z' → K A' Z' O' → K' A' Z' O') : KT lo N R Z K' σ' h' := by
  obtain ⟨A', Z', O', q1, q2, q3, q4⟩ := k
  exact ⟨A', Z', O', q1, q2, q3, hk _ _ _ q2 q4⟩
theorem Upd.done {K : Vw → List Pt → Prop} (k : K Z O) : Upd lo Z O K := fun R h m => ⟨Z, O, .refl _, m, k⟩
theorem Upd.drop {o : Pt} {f : Pt → List Pt} {g : List Pt} {K : Vw → List Pt → Prop} (ha : At O o f g) (k : Upd lo Z g K) : Upd lo Z O K := fun R h m => k R h (At.mem ha m).drop
theorem Upd.nil {K : Vw → List Pt → Prop} (k : K Z []) : Upd lo Z O K := by
  intro R h m
  refine ⟨Z, [], .refl _, ?_, k⟩
  induction O with
  | nil => exact m
  | cons o O ih => exact ih m.drop
theorem Upd.arr {v : Value} {e c : Nat} {xs : List (List Value)} {f : Pt → List Pt} {g : List Pt} {K : Vw → List Pt → Prop} (ha : At O (.arr v e c xs) f g) (k : ∀ Z', Z.le Z' → Fz Z' e v xs → Upd lo Z' g K) : Upd lo Z O K := by
  intro R h m
  obtain ⟨Z1, k1, k2, k3⟩ := (At.mem ha m).freezeArr
  obtain ⟨Z2, O2, q1, q2, q3⟩ := k Z1 k1 k2 R h k3
  exact ⟨Z2, O2, k1.trans q1, q2, q3⟩
theorem Upd.gro {v : Value} {e : Nat} {xs : List (List Value)} {f : Pt → List Pt} {g : List Pt} {K : Vw → List Pt → Prop} (ha : At O (.gro v e xs) f g) (k : ∀ Z', Z.le Z' → Fz Z' e v xs → Upd lo Z' g K) : Upd lo Z O K := by
  intro R h m
  obtain ⟨Z1, k1, k2, k3⟩ := (At.mem ha m).freezeGro
  obtain ⟨Z2, O2, q1, q2, q3⟩ := k Z1 k1 k2 R h k3
  exact ⟨Z2, O2, k1.trans q1, q2, q3⟩
theorem Upd.gro0 {e : Nat} {K : Vw → List Pt → Prop} (he : 0 < e) (k : Upd lo Z (.gro (.slice none 0 0) e [] :: O) K) : Upd lo Z O K := fun R h m => k R h (m.gro0 he)
theorem Upd.perm {O' : List Pt} {K : Vw → List Pt → Prop} (hp : O.Perm O') (k : Upd lo Z O' K) : Upd lo Z O K := fun R h m => k R h (m.perm (hp.append_right R))
inductive Has : List Pt → List Pt → Prop
  | nil {O : List Pt} : Has O []
  | box {O g L : List Pt} {f : Pt → List Pt} {b : Nat} {cs cs' : List Value} (ha : At O (.box b cs) f g) (hc : cs = cs') (k : Has g L) : Has O (.box b cs' :: L)
  | arr {O g L : List Pt} {f : Pt → List Pt} {v : Value} {e c : Nat} {xs xs' : List (List Value)} (ha : At O (.arr v e c xs) f g) (hc : xs = xs') (k : Has g L) : Has O (.arr v e c xs' :: L)
  | gro {O g L : List Pt} {f : Pt → List Pt} {v : Value} {e : Nat} {xs xs' : List (List Value)} (ha : At O (.gro v e xs) f g) (hc : xs = xs') (k : Has g L) : Has O (.gro v e xs' :: L)
  | arrGro {O g L : List Pt} {f : Pt → List Pt} {v : Value} {e c : Nat} {xs xs' : List (List Value)} (ha : At O (.arr v e c xs) f g) (hl : c = xs.length) (he : 0 < e) (hc : xs = xs') (k : Has g L) : Has O (.gro v e xs' :: L)
  | map {O g L : List Pt} {f : Pt → List Pt} {v : Value} {es es' : List (Value × Value)} (ha : At O (.map v es) f g) (hc : es = es') (k : Has g L) : Has O (.map v es' :: L)
theorem Has.mem {O L : List Pt} (k : Has O L) : ∀ {lo : Nat} {Z : Vw} {R : List Pt} {h : Heap}, Mem lo Z (O ++ R) h → Mem lo Z (L ++ R) h := by
  induction k with
  | nil =>
    intro lo Z R h m
    rename_i O
    induction O with
    | nil => exact m
    | cons o O ih => exact ih m.drop
  | box ha hc k ih => subst hc; intro lo Z R h m; exact (ih (R := _ :: R) ((At.mem ha m).perm List.perm_middle.symm)).perm (by simp)
  | arr ha hc k ih => subst hc; intro lo Z R h m; exact (ih (R := _ :: R) ((At.mem ha m).perm List.perm_middle.symm)).perm (by simp)
  | gro ha hc k ih => subst hc; intro lo Z R h m; exact (ih (R := _ :: R) ((At.mem ha m).perm List.perm_middle.symm)).perm (by simp)
  | arrGro ha hl he hc k ih => subst hc; intro lo Z R h m; exact (ih (R := _ :: R) (((At.mem ha m).arrGro hl he).perm List.perm_middle.symm)).perm (by simp)
  | map ha hc k ih => subst hc; intro lo Z R h m; exact (ih (R := _ :: R) ((At.mem ha m).perm List.perm_middle.symm)).perm (by simp)
theorem Upd.has {L : List Pt} {K : Vw → List Pt → Prop} (hh : Has O L) (k : K Z L) : Upd lo Z O K := fun R h m => ⟨Z, L, .refl _, hh.mem m, k⟩
theorem R_nil {K : Tab → Vw → List Pt → Prop} {KP : KPan} (k : K A Z O) : R F lo [] N A Z O K KP := fun R σ h hs m => KT.here hs m k
theorem stepR_trans {o : HOper} {σ : List Value} {h : Heap} {K K' : List Value → Heap → Prop} {KP KP' : Value → Heap → Prop} (hs : stepR (CallsR F lo) lo o σ h K KP) (hk : ∀ s g, K s g → K' s g) (hp : ∀ v g, KP v g → KP' v g) : stepR (CallsR F lo) lo o σ h K' KP' :=
  stepR_mono (fun _ _ _ _ q => q) hk hp hs
theorem R_cons {o : HOper} {os : List HOper} {K : Tab → Vw → List Pt → Prop} {KP : KPan} (k : S F lo o N A Z O (fun A1 Z1 O1 => R F lo os N A1 Z1 O1 K KP) KP) : R F lo (o :: os) N A Z O K KP := by
  intro R σ h hs m
  refine stepR_trans (k R σ h hs m) (fun s g q => ?_) (fun v g q => q)
  obtain ⟨A1, Z1, O1, hs1, z1, m1, k2⟩ := q
  exact ropsR_mono (fun _ _ _ _ q => q) (fun s g q => q.trans z1) (fun v s g q => q.trans z1) (k2 R s g hs1 m1)
theorem D_nil {ops : List HOper} {K : Tab → Vw → List Pt → Prop} {KP : KPan} (k : K A Z O) : D F lo ops [] N A Z O K KP := fun R σ h hs m => KT.here hs m k
theorem D_consR {ops : List HOper} {i : Nat} {js : List Nat} {rest : List (Nat × List Nat)} {o : HOper} {K : Tab → Vw → List Pt → Prop} {KP : KPan} (ho : ops[i]? = some o) (k : S F lo o N A Z O (fun A1 Z1 O1 => Rck lo ops N A1 Z1 O1 js ∧ D F lo ops rest N A1 Z1 O1 K KP) KP) : D F lo ops ((i, js) :: rest) N A Z O K KP := by
  intro R σ h hs m
  refine ⟨o, ho, stepR_trans (k R σ h hs m) (fun s g q => ?_) (fun v g q => q)⟩
  obtain ⟨A1, Z1, O1, hs1, z1, m1, kr, k2⟩ := q
  exact ⟨kr R s g hs1 m1, drwsR_mono (fun _ _ _ _ q => q) (fun s g q => q.trans z1) (fun v s g q => q.trans z1) (k2 R s g hs1 m1)⟩
theorem Rck_nil {ops : List HOper} : Rck lo ops N A Z O [] := fun R σ h hs m => rfl
theorem Rck_skip {ops : List HOper} {j : Nat} {js : List Nat} {o : HOper} {t : Nat} {b : Bool} (ho : ops[j]? = some o) (hg : o.guard = some (t, b)) (hl : look A t = some (.bool (!b))) (k : Rck lo ops N A Z O js) : Rck lo ops N A Z O (j :: js) := by
  intro R σ h hs m
  have : ((!b) == b) = false := by cases b <;> rfl
  simp only [recheck, ho, hg, wantedH, hs.2 t _ hl, this, Bool.false_eq_true, if_false, Bool.true_and, atR_eq]
  exact k R σ h hs m
theorem Rck_do {ops : List HOper} {j : Nat} {js : List Nat} {op : HOp} {d : Nat} {v : Value} (ho : ops[j]? = some ⟨some d, op, none⟩) (hd : look A d = some v) (hr : Rds lo op N A Z O v) (hv : sameV v v = true) (k : Rck lo ops N A Z O js) : Rck lo ops N A Z O (j :: js) := by
  intro R σ h hs m
  simp only [recheck, ho, wantedH, if_true, hr R σ h hs m, List.getD_eq_getElem?_getD, hs.2 d v hd, Option.getD_some, hv, Bool.true_and, atR_eq]
  exact k R σ h hs m
theorem Rck_if {ops : List HOper} {j : Nat} {js : List Nat} {op : HOp} {d t : Nat} {b : Bool} {v : Value} (ho : ops[j]? = some ⟨some d, op, some (t, b)⟩) (hl : look A t = some (.bool b)) (hd : look A d = some v) (hr : Rds lo op N A Z O v) (hv : sameV v v = true) (k : Rck lo ops N A Z O js) : Rck lo ops N A Z O (j :: js) := by
  intro R σ h hs m
  simp only [recheck, ho, wantedH, hs.2 t _ hl, BEq.rfl, if_true, hr R σ h hs m, List.getD_eq_getElem?_getD, hs.2 d v hd, Option.getD_some, hv, Bool.true_and, atR_eq]
  exact k R σ h hs m
theorem thenV_X {R : List Pt} {K : Value → Vw → List Pt → Prop} {K1 : Value → Heap → Prop} {KP : Value → Heap → Prop} (hk : ∀ v h' Z' O', Z.le Z' → Mem lo Z' (O' ++ R) h' → K v Z' O' → K1 v h') : ∀ r h', (∃ Z' O', Z.le Z' ∧ Mem lo Z' (O' ++ R) h' ∧ noPan K r Z' O') → thenV K1 KP r h'
  | .ret v, h', ⟨Z', O', q1, q2, q3⟩ => hk v h' Z' O' q1 q2 q3
  | .pan v, h', ⟨Z', O', q1, q2, q3⟩ => q3.elim
theorem S_do {d : Nat} {op : HOp} {K : Tab → Vw → List Pt → Prop} {KP : KPan} (hd : Nat.blt d N = true) (k : X F lo op N A Z O (fun v Z1 O1 => K ((d, v) :: A) Z1 O1)) : S F lo ⟨some d, op, none⟩ N A Z O K KP := by
  intro R σ h hs m
  unfold stepR
  simp only [wantedH, if_true]
  exact xopR_mono (fun _ _ _ _ q => q) (thenV_X fun v h' Z' O' z1 m1 k2 => ⟨(d, v) :: A, Z', O', hs.put (d := some d) hd, z1, m1, k2⟩) (k R σ h hs m)
theorem S_dn {op : HOp} {K : Tab → Vw → List Pt → Prop} {KP : KPan} (k : X F lo op N A Z O (fun v Z1 O1 => K A Z1 O1)) : S F lo ⟨none, op, none⟩ N A Z O K KP := by
  intro R σ h hs m
  unfold stepR
  simp only [wantedH, if_true]
  exact xopR_mono (fun _ _ _ _ q => q) (thenV_X fun v h' Z' O' z1 m1 k2 => ⟨A, Z', O', hs, z1, m1, k2⟩) (k R σ h hs m)
theorem S_if {d : Nat} {op : HOp} {t : Nat} {b : Bool} {K : Tab → Vw → List Pt → Prop} {KP : KPan} (hl : look A t = some (.bool b)) (hd : Nat.blt d N = true) (k : X F lo op N A Z O (fun v Z1 O1 => K ((d, v) :: A) Z1 O1)) : S F lo ⟨some d, op, some (t, b)⟩ N A Z O K KP := by
  intro R σ h hs m
  unfold stepR
  simp only [wanted_tab hs hl, BEq.rfl, if_true]
  exact xopR_mono (fun _ _ _ _ q => q) (thenV_X fun v h' Z' O' z1 m1 k2 => ⟨(d, v) :: A, Z', O', hs.put (d := some d) hd, z1, m1, k2⟩) (k R σ h hs m)
theorem S_no {d : Nat} {op : HOp} {t : Nat} {b : Bool} {K : Tab → Vw → List Pt → Prop} {KP : KPan} (hl : look A t = some (.bool (!b))) (hd : Nat.blt d N = true) (k : K ((d, undef) :: A) Z O) : S F lo ⟨some d, op, some (t, b)⟩ N A Z O K KP := by
  intro R σ h hs m
  have : ((!b) == b) = false := by cases b <;> rfl
  unfold stepR
  simp only [wanted_tab hs hl, this, Bool.false_eq_true, if_false]
  exact KT.here (hs.put (d := some d) hd) m k
theorem S_un {d : Nat} {op : HOp} {t : Nat} {b : Bool} {K : Tab → Vw → List Pt → Prop} {KP : KPan} (hl : look A t = some undef) (hd : Nat.blt d N = true) (k : K ((d, undef) :: A) Z O) : S F lo ⟨some d, op, some (t, b)⟩ N A Z O K KP := by
  intro R σ h hs m
  have : wantedH σ (some (t, b)) = false := by simp only [wantedH, hs.2 t _ hl, atR_eq]; rfl
  unfold stepR
  simp only [this, Bool.false_eq_true, if_false]
  exact KT.here (hs.put (d := some d) hd) m k
def thenG (K : Value → Vw → List Pt → Prop) (KP : Value → Vw → List Pt → Prop) : Rv → Vw → List Pt → Prop
  | .ret v, Z, O => K v Z O
  | .pan v, Z, O => KP v Z O
theorem S_doG {d : Nat} {op : HOp} {K : Tab → Vw → List Pt → Prop} {KP : KPan} (hd : Nat.blt d N = true) (k : XG F lo op N A Z O (thenG (fun v Z1 O1 => K ((d, v) :: A) Z1 O1) (fun v Z1 O1 => KP v A Z1 O1))) : S F lo ⟨some d, op, none⟩ N A Z O K KP := by
  intro R σ h hs m
  unfold stepR
  simp only [wantedH, if_true]
  refine xopR_mono (fun _ _ _ _ q => q) (fun r h' q => ?_) (k R σ h hs m)
  obtain ⟨Z', O', z1, m1, k2⟩ := q
  cases r with
  | ret v => exact ⟨(d, v) :: A, Z', O', hs.put (d := some d) hd, z1, m1, k2⟩
  | pan v => exact ⟨A, Z', O', hs, z1, m1, k2⟩
theorem S_dnG {op : HOp} {K : Tab → Vw → List Pt → Prop} {KP : KPan} (k : XG F lo op N A Z O (thenG (fun v Z1 O1 => K A Z1 O1) (fun v Z1 O1 => KP v A Z1 O1))) : S F lo ⟨none, op, none⟩ N A Z O K KP := by
  intro R σ h hs m
  unfold stepR
  simp only [wantedH, if_true]
  refine xopR_mono (fun _ _ _ _ q => q) (fun r h' q => ?_) (k R σ h hs m)
  obtain ⟨Z', O', z1, m1, k2⟩ := q
  cases r with
  | ret v => exact ⟨A, Z', O', hs, z1, m1, k2⟩
  | pan v => exact ⟨A, Z', O', hs, z1, m1, k2⟩
def thenQ (K : Tab → Vw → List Pt → Prop) (Q : Out → Tab → Vw → List Pt → Prop) : Out → Tab → Vw → List Pt → Prop
  | .nrm, A, Z, O => K A Z O
  | o, A, Z, O => Q o A Z O
def blockQ (id : Nat) (Q : Out → Tab → Vw → List Pt → Prop) : Out → Tab → Vw → List Pt → Prop
  | .ext j, A, Z, O => if j = id then Q .nrm A Z O else Q (.ext j) A Z O
  | o, A, Z, O => Q o A Z O
section
variable {Q : Out → Tab → Vw → List Pt → Prop}
theorem W_skip (k : Q .nrm A Z O) : W F lo .skip N A Z O Q := fun R σ h hs m => Runs.skip (KT.here hs m k)
theorem W_ret (k : Q .ret A Z O) : W F lo .ret N A Z O Q := fun R σ h hs m => Runs.ret (KT.here hs m k)
theorem W_exit {id : Nat} (k : Q (.ext id) A Z O) : W F lo (.exit id) N A Z O Q := fun R σ h hs m => Runs.exit (KT.here hs m k)
theorem W_seq {a b : HC} (k : W F lo a N A Z O (thenQ (fun A1 Z1 O1 => W F lo b N A1 Z1 O1 Q) Q)) : W F lo (.seq a b) N A Z O Q := by
  intro R σ h hs m
  refine Runs.seq ((k R σ h hs m).mono fun o s g q => ?_)
  obtain ⟨A1, Z1, O1, hs1, z1, m1, k2⟩ := q
  cases o with
  | nrm => exact (k2 R s g hs1 m1).mono fun o s g q => q.trans z1
  | ret => exact ⟨A1, Z1, O1, hs1, z1, m1, k2⟩
  | ext id => exact ⟨A1, Z1, O1, hs1, z1, m1, k2⟩
  | pan v => exact ⟨A1, Z1, O1, hs1, z1, m1, k2⟩
theorem W_condT {c : Operand} {a b : HC} (hc : evA A c = some (.bool true)) (k : W F lo a N A Z O Q) : W F lo (.cond c a b) N A Z O Q := fun R σ h hs m => Runs.condT (evA_ok hs hc) (k R σ h hs m)
theorem W_condF {c : Operand} {a b : HC} (hc : evA A c = some (.bool false)) (k : W F lo b N A Z O Q) : W F lo (.cond c a b) N A Z O Q := fun R σ h hs m => Runs.condF (evA_ok hs hc) (k R σ h hs m)
theorem W_cond {c : Operand} {t : Bool} {a b : HC} (hc : evA A c = some (.bool t)) (ka : t = true → W F lo a N A Z O Q) (kb : t = false → W F lo b N A Z O Q) : W F lo (.cond c a b) N A Z O Q := by
  cases t with
  | true => exact W_condT hc (ka rfl)
  | false => exact W_condF hc (kb rfl)
theorem W_block {id : Nat} {c : HC} (k : W F lo c N A Z O (blockQ id Q)) : W F lo (.block id c) N A Z O Q := by
  intro R σ h hs m
  refine Runs.block ((k R σ h hs m).mono fun o s g q => ?_)
  obtain ⟨A1, Z1, O1, hs1, z1, m1, k2⟩ := q
  cases o with
  | nrm => exact ⟨A1, Z1, O1, hs1, z1, m1, k2⟩
  | ret => exact ⟨A1, Z1, O1, hs1, z1, m1, k2⟩
  | pan v => exact ⟨A1, Z1, O1, hs1, z1, m1, k2⟩
  | ext j =>
    simp only [blockQ] at k2
    simp only [inB]
    by_cases hj : j = id
    · rw [if_pos hj] at k2 ⊢; exact ⟨A1, Z1, O1, hs1, z1, m1, k2⟩
    · rw [if_neg hj] at k2 ⊢; exact ⟨A1, Z1, O1, hs1, z1, m1, k2⟩
theorem W_rgn {ops : List HOper} (k : R F lo ops N A Z O (fun A1 Z1 O1 => Q .nrm A1 Z1 O1) (fun v A1 Z1 O1 => Q (.pan v) A1 Z1 O1)) : W F lo (.rgn ops) N A Z O Q := fun R σ h hs m => Runs.rgn (k R σ h hs m)
theorem W_mono {c : HC} {Q' : Out → Tab → Vw → List Pt → Prop} (k : W F lo c N A Z O Q) (hq : ∀ o A' Z' O', Z.le Z' → Q o A' Z' O' → Q' o A' Z' O') : W F lo c N A Z O Q' :=
  fun R σ h hs m => (k R σ h hs m).mono fun o s g q => q.mono fun A' Z' O' hz q => hq o A' Z' O' hz q
theorem thenQ_nrm {K : Tab → Vw → List Pt → Prop} (k : K A Z O) : thenQ K Q .nrm A Z O := k
theorem thenQ_ret {K : Tab → Vw → List Pt → Prop} (k : Q .ret A Z O) : thenQ K Q .ret A Z O := k
theorem thenQ_ext {K : Tab → Vw → List Pt → Prop} {id : Nat} (k : Q (.ext id) A Z O) : thenQ K Q (.ext id) A Z O := k
theorem thenQ_pan {K : Tab → Vw → List Pt → Prop} {v : Value} (k : Q (.pan v) A Z O) : thenQ K Q (.pan v) A Z O := k
theorem blockQ_pan {id : Nat} {v : Value} (k : Q (.pan v) A Z O) : blockQ id Q (.pan v) A Z O := k
theorem blockQ_nrm {id : Nat} (k : Q .nrm A Z O) : blockQ id Q .nrm A Z O := k
theorem blockQ_ret {id : Nat} (k : Q .ret A Z O) : blockQ id Q .ret A Z O := k
theorem blockQ_ext {id : Nat} (k : Q .nrm A Z O) : blockQ id Q (.ext id) A Z O := by simp only [blockQ, if_true]; exact k
theorem blockQ_far {id j : Nat} (hj : Nat.beq j id = false) (k : Q (.ext j) A Z O) : blockQ id Q (.ext j) A Z O := by
  have : j ≠ id := fun e => by subst e; simp at hj
  simp only [blockQ, if_neg this]; exact k
end
def wrote : HC → List Nat
  | .seq a b => wrote a ++ wrote b
  | .cond _ a b => wrote a ++ wrote b
  | .block _ c | .loop c => wrote c
  | .rgn ops => ops.filterMap (·.dst)
  | .drw ops _ => ops.filterMap (·.dst)
  | _ => []
theorem putD_other {σ : List Value} {d : Option Nat} {v : Value} {t : Nat} (h : d ≠ some t) : (putD σ d v)[t]? = σ[t]? := by
  cases d with
  | none => rfl
  | some d =>
    have : d ≠ t := fun e => h (by rw [e])
    simp only [putD, setS_eq, List.getElem?_set_ne this]
theorem stepR_keeps {c : CallR} {o : HOper} {σ : List Value} {h : Heap} {K : List Value → Heap → Prop} {KP : Value → Heap → Prop} (hx : stepR c lo o σ h K KP) : stepR c lo o σ h (fun s g => K s g ∧ ∀ t, o.dst ≠ some t → s[t]? = σ[t]?) KP := by
  unfold stepR at hx ⊢
  split
  · rename_i hw
    rw [if_pos hw] at hx
    refine xopR_mono (fun _ _ _ _ q => q) (fun r g q => ?_) hx
    cases r with
    | ret v => exact ⟨q, fun t ht => putD_other ht⟩
    | pan v => exact q
  · rename_i hw
    rw [if_neg hw] at hx
    exact ⟨hx, fun t ht => putD_other ht⟩
theorem ropsR_keeps {c : CallR} : ∀ {ops : List HOper} {σ : List Value} {h : Heap} {K : List Value → Heap → Prop} {KP : Value → List Value → Heap → Prop}, ropsR c lo K KP ops σ h → ropsR c lo (fun s g => K s g ∧ ∀ t, t ∉ ops.filterMap (·.dst) → s[t]? = σ[t]?) (fun v s g => KP v s g ∧ ∀ t, t ∉ ops.filterMap (·.dst) → s[t]? = σ[t]?) ops σ h
  | [], σ, h, K, KP, hx => ⟨hx, fun t _ => rfl⟩
  | o :: os, σ, h, K, KP, hx => by
    refine stepR_mono (fun _ _ _ _ q => q) (fun s g q => ?_) (fun v g q => ⟨q, fun t _ => rfl⟩) (stepR_keeps hx)
    obtain ⟨q1, q2⟩ := q
    have hin : ∀ t, t ∉ (o :: os).filterMap (·.dst) → t ∉ os.filterMap (·.dst) ∧ o.dst ≠ some t := fun t ht => ⟨fun hm => ht (by obtain ⟨x, hx, e⟩ := List.mem_filterMap.1 hm; exact List.mem_filterMap.2 ⟨x, by simp [hx], e⟩), fun e => ht (List.mem_filterMap.2 ⟨o, by simp, e⟩)⟩
    refine ropsR_mono (fun _ _ _ _ q => q) (fun s2 g2 q => ⟨q.1, fun t ht => ?_⟩) (fun v s2 g2 q => ⟨q.1, fun t ht => ?_⟩) (ropsR_keeps q1)
    · rw [q.2 t (hin t ht).1, q2 t (hin t ht).2]
    · rw [q.2 t (hin t ht).1, q2 t (hin t ht).2]
theorem wipe_keeps : ∀ {ops : List HOper} {σ : List Value} {t : Nat}, t ∉ ops.filterMap (·.dst) → (wipe ops σ)[t]? = σ[t]?
  | [], σ, t, _ => rfl
  | o :: os, σ, t, ht => by
    rw [wipe, wipe_keeps (fun hm => ht (by obtain ⟨x, hx, e⟩ := List.mem_filterMap.1 hm; exact List.mem_filterMap.2 ⟨x, by simp [hx], e⟩)), putD_other (fun e => ht (List.mem_filterMap.2 ⟨o, by simp, e⟩))]
theorem drwsR_keeps {c : CallR} {ops : List HOper} : ∀ {sched : List (Nat × List Nat)} {σ : List Value} {h : Heap} {K : List Value → Heap → Prop} {KP : Value → List Value → Heap → Prop}, drwsR c lo ops K KP sched σ h → drwsR c lo ops (fun s g => K s g ∧ ∀ t, t ∉ ops.filterMap (·.dst) → s[t]? = σ[t]?) (fun v s g => KP v s g ∧ ∀ t, t ∉ ops.filterMap (·.dst) → s[t]? = σ[t]?) sched σ h
  | [], σ, h, K, KP, hx => ⟨hx, fun t _ => rfl⟩
  | (i, js) :: rest, σ, h, K, KP, hx => by
    obtain ⟨o, ho, hx⟩ := hx
    refine ⟨o, ho, stepR_mono (fun _ _ _ _ q => q) (fun s g q => ?_) (fun v g q => ⟨q, fun t _ => rfl⟩) (stepR_keeps hx)⟩
    obtain ⟨⟨q0, q1⟩, q2⟩ := q
    have hin : ∀ t, t ∉ ops.filterMap (·.dst) → o.dst ≠ some t := fun t ht e => ht (List.mem_filterMap.2 ⟨o, List.mem_of_getElem? ho, e⟩)
    refine ⟨q0, drwsR_mono (fun _ _ _ _ q => q) (fun s2 g2 q => ⟨q.1, fun t ht => ?_⟩) (fun v s2 g2 q => ⟨q.1, fun t ht => ?_⟩) (drwsR_keeps q1)⟩
    · rw [q.2 t ht, q2 t (hin t ht)]
    · rw [q.2 t ht, q2 t (hin t ht)]
theorem runs_keeps {c : HC} {σ : List Value} {h : Heap} {Q : PostR} (hr : Runs F lo c σ h Q) : Runs F lo c σ h fun o s g => Q o s g ∧ ∀ t, t ∉ wrote c → s[t]? = σ[t]? := by
  refine hr (fun c σ h Q => Runs F lo c σ h fun o s g => Q o s g ∧ ∀ t, t ∉ wrote c → s[t]? = σ[t]?) (fun c σ h Q hs => ?_)
  have lf : ∀ {c : HC} {σ : List Value} {h : Heap} {Q : PostR}, Lf (fun c σ h Q => Runs F lo c σ h fun o s g => Q o s g ∧ ∀ t, t ∉ wrote c → s[t]? = σ[t]?) c σ h Q → Runs F lo c σ h fun o s g => Q o s g ∧ ∀ t, t ∉ wrote c → s[t]? = σ[t]? := by
    intro c σ h Q hl
    obtain ⟨Q1, h1, h2⟩ := hl
    exact h1.mono fun o s g q => ⟨h2 _ _ _ q.1, q.2⟩
  have hcall : ∀ k vs h K, callR F lo (fun c σ h Q => Runs F lo c σ h fun o s g => Q o s g ∧ ∀ t, t ∉ wrote c → s[t]? = σ[t]?) k vs h K → CallsR F lo k vs h K := fun k vs h K hc => callR_mono (fun c σ h Q q => q.mono fun o s g q => q.1) (fun _ _ q => q) hc
  cases c with
  | skip => exact Runs.skip ⟨hs, fun _ _ => rfl⟩
  | ret => exact Runs.ret ⟨hs, fun _ _ => rfl⟩
  | exit id => exact Runs.exit ⟨hs, fun _ _ => rfl⟩
  | seq a b =>
    refine Runs.seq ((lf hs).mono fun o s g q => ?_)
    obtain ⟨q1, q2⟩ := q
    have hw : ∀ t, t ∉ wrote (.seq a b) → t ∉ wrote a ∧ t ∉ wrote b := fun t ht => by simp only [wrote, List.mem_append, not_or] at ht; exact ht
    cases o with
    | nrm => exact (lf q1).mono fun o s2 g2 q => ⟨q.1, fun t ht => by rw [q.2 t (hw t ht).2, q2 t (hw t ht).1]⟩
    | ret => exact ⟨q1, fun t ht => q2 t (hw t ht).1⟩
    | ext id => exact ⟨q1, fun t ht => q2 t (hw t ht).1⟩
    | pan v => exact ⟨q1, fun t ht => q2 t (hw t ht).1⟩
  | cond c a b =>
    have hw : ∀ t, t ∉ wrote (.cond c a b) → t ∉ wrote a ∧ t ∉ wrote b := fun t ht => by simp only [wrote, List.mem_append, not_or] at ht; exact ht
    rcases hs with ⟨h1, h2⟩ | ⟨h1, h2⟩
    · exact Runs.condT h1 ((lf h2).mono fun o s g q => ⟨q.1, fun t ht => q.2 t (hw t ht).1⟩)
    · exact Runs.condF h1 ((lf h2).mono fun o s g q => ⟨q.1, fun t ht => q.2 t (hw t ht).2⟩)
  | block id c => exact Runs.block ((lf hs).mono fun o s g q => q)
  | loop c =>
    refine Runs.loop (Runs.mono (c := c) (Q := fun o s g => (thenR (fun σ1 h1 => Lf (fun c σ h Q => Runs F lo c σ h fun o s g => Q o s g ∧ ∀ t, t ∉ wrote c → s[t]? = σ[t]?) (.loop c) σ1 h1 Q) Q) o s g ∧ ∀ t, t ∉ wrote c → s[t]? = σ[t]?) (lf hs) fun o s g q => ?_)
    obtain ⟨q1, q2⟩ := q
    cases o with
    | nrm => exact (lf q1).mono fun o s2 g2 q => ⟨q.1, fun t ht => by rw [q.2 t ht, q2 t ht]⟩
    | ret => exact ⟨q1, fun t ht => q2 t ht⟩
    | ext id => exact ⟨q1, fun t ht => q2 t ht⟩
    | pan v => exact ⟨q1, fun t ht => q2 t ht⟩
  | rgn ops =>
    exact Runs.rgn (ropsR_mono hcall (fun _ _ q => q) (fun _ _ _ q => q) (ropsR_keeps hs))
  | drw ops sched =>
    refine Runs.drw (drwsR_mono hcall (fun _ _ q => q) (fun v s g q => ⟨q.1, fun t ht => ?_⟩) (drwsR_keeps hs))
    rw [wipe_keeps ht]; exact q.2 t ht
def keepT (dead : List Nat) : Tab → Tab
  | [] => []
  | (i, v) :: A => match dead.any (Nat.beq i) with
    | true => keepT dead A
    | false => (i, v) :: keepT dead A
theorem keepT_look {dead : List Nat} : ∀ {A : Tab} {i : Nat} {v : Value}, look (keepT dead A) i = some v → look A i = some v ∧ i ∉ dead
  | [], i, v, h => by cases h
  | (j, w) :: A, i, v, h => by
    simp only [keepT] at h
    split at h
    · rename_i hd
      obtain ⟨h1, h2⟩ := keepT_look h
      refine ⟨?_, h2⟩
      simp only [look]
      split
      · rename_i hb
        have : j = i := by simpa using hb
        subst this
        exact absurd (by simpa using hd) h2
      · exact h1
    · rename_i hd
      simp only [look] at h ⊢
      split at h
      · rename_i hb
        have hji : j = i := by simpa using hb
        subst hji
        exact ⟨h, fun hm => by simp at hd; exact hd j hm rfl⟩
      · exact keepT_look h
theorem look_app {A B : Tab} {i : Nat} {v : Value} : look (A ++ B) i = some v → look A i = some v ∨ look B i = some v := by
  induction A with
  | nil => exact fun h => .inr h
  | cons p A ih =>
    obtain ⟨j, w⟩ := p
    intro h
    simp only [List.cons_append, look] at h ⊢
    split at h
    · exact .inl h
    · exact ih h
theorem keepT_ok {dead : List Nat} {σ σ1 : List Value} (hs : Sl N A σ) (hl : σ1.length = σ.length) (hk : ∀ t, t ∉ dead → σ1[t]? = σ[t]?) : Sl N (keepT dead A) σ1 :=
  ⟨by rw [hl]; exact hs.1, fun t v hv => by
    obtain ⟨h1, h2⟩ := keepT_look hv
    rw [hk t h2]; exact hs.2 t v h1⟩
theorem W_drw {ops : List HOper} {sched : List (Nat × List Nat)} {Q : Out → Tab → Vw → List Pt → Prop} (k : D F lo ops sched N A Z O (fun A1 Z1 O1 => Q .nrm A1 Z1 O1) (fun v A1 Z1 O1 => Q (.pan v) (keepT (ops.filterMap (·.dst)) A1) Z1 O1)) : W F lo (.drw ops sched) N A Z O Q := by
  intro R σ h hs m
  refine Runs.drw (drwsR_mono (fun _ _ _ _ q => q) (fun s g q => q) (fun v s g q => ?_) (k R σ h hs m))
  obtain ⟨A1, Z1, O1, hs1, z1, m1, k2⟩ := q
  exact ⟨_, Z1, O1, keepT_ok hs1 (wipe_len _ _) (fun t ht => wipe_keeps ht), z1, m1, k2⟩
theorem W_loop {ι : Type} {c : HC} {Q : Out → Tab → Vw → List Pt → Prop} (T : ι → Tab) (L : ι → List Pt) (P : ι → Vw → Prop) (μ : ι → Nat) (i0 : ι) (hT : SubT (T i0) A) (h0 : Upd lo Z O fun Z' O' => P i0 Z' ∧ Has O' (L i0))
    (round : ∀ i Z', Z.le Z' → P i Z' → W F lo c N (T i ++ keepT (wrote c) A) Z' (L i) (thenQ (fun A1 Z1 O1 => Upd lo Z1 O1 fun Z2 O2 => ∃ j, μ j < μ i ∧ P j Z2 ∧ SubT (T j) A1 ∧ Has O2 (L j)) Q)) : W F lo (.loop c) N A Z O Q := by
  have key : ∀ m i Z', Z.le Z' → μ i = m → P i Z' → ∀ R σ h, Sl N (T i) σ → Sl N (keepT (wrote c) A) σ → Mem lo Z' (L i ++ R) h → Runs F lo (.loop c) σ h fun out σ' h' => KT lo N R Z' (Q out) σ' h' := by
    intro m
    induction m using Nat.strongRecOn with
    | _ m ih =>
      intro i Z' hz hm hi R σ h hs hk hmem
      have hr := round i Z' hz hi R σ h ⟨hs.1, fun t v hv => by
        rcases look_app hv with h3 | h3
        · exact hs.2 t v h3
        · exact hk.2 t v h3⟩ hmem
      refine Runs.loop ((runs_keeps hr).mono fun o s g q => ?_)
      obtain ⟨⟨A1, Z1, O1, hs1, z1, m1, k2⟩, q2⟩ := q
      cases o with
      | nrm =>
        obtain ⟨Z2, O2, z2, m2, j, hlt, hj, hsub, hhas⟩ := k2 R g m1
        have hk2 : Sl N (keepT (wrote c) A) s := ⟨hs1.1, fun t v hv => by
          rw [q2 t (keepT_look hv).2]
          exact hk.2 t v hv⟩
        exact (ih (μ j) (hm ▸ hlt) j Z2 (hz.trans (z1.trans z2)) rfl hj R s g (hs1.sub hsub) hk2 (hhas.mem m2)).mono fun o s g q => q.trans (z1.trans z2)
      | ret => exact ⟨A1, Z1, O1, hs1, z1, m1, k2⟩
      | ext id => exact ⟨A1, Z1, O1, hs1, z1, m1, k2⟩
      | pan v => exact ⟨A1, Z1, O1, hs1, z1, m1, k2⟩
  intro R σ h hs m
  obtain ⟨Z1, O1, z1, m1, p1, hh⟩ := h0 R h m
  exact (key _ i0 Z1 z1 rfl p1 R σ h (hs.sub hT) ⟨hs.1, fun t v hv => hs.2 t v (keepT_look hv).1⟩ (hh.mem m1)).mono fun o s g q => q.trans z1
def Res (A : Tab) (Z : Vw) (O : List Pt) (rs : List (Nat × Option (Option Nat))) (l : List Value) : Prop :=
  ∀ N lo R σ h, Sl N A σ → Mem lo Z (O ++ R) h → ress h σ rs = some l
theorem Res.nil : Res A Z O [] [] := fun N lo R σ h hs m => rfl
theorem getD_of_look {σ : List Value} (hs : Sl N A σ) {t : Nat} {w : Value} (hw : look A t = some w) : σ.getD t undef = w := by rw [List.getD_eq_getElem?_getD, hs.2 t w hw]; rfl
theorem Res.tmp {t : Nat} {rs : List (Nat × Option (Option Nat))} {v : Value} {l : List Value} (hl : look A t = some v) (k : Res A Z O rs l) : Res A Z O ((t, none) :: rs) (v :: l) := by
  intro N lo R σ h hs m
  simp only [ress, resOf, getD_of_look hs hl, k N lo R σ h hs m]
theorem Res.cell {t b o : Nat} {rs : List (Nat × Option (Option Nat))} {v : Value} {l cs : List Value} {f : Pt → List Pt} {g : List Pt} (hl : look A t = some (.pointer (some ⟨b, o, none⟩))) (ha : At O (.box b cs) f g) (hv : cs[o]? = some v) (k : Res A Z O rs l) : Res A Z O ((t, some none) :: rs) (v :: l) := by
  intro N lo R σ h hs m
  have hb := (m.own _ (At.isin ha)).2
  simp only [ress, resOf, getD_of_look hs hl, k N lo R σ h hs m, rd1_of (cells_row hb) hv]
theorem Res.agg {t b n : Nat} {rs : List (Nat × Option (Option Nat))} {l cs : List Value} {f : Pt → List Pt} {g : List Pt} (hl : look A t = some (.pointer (some ⟨b, 0, none⟩))) (ha : At O (.box b cs) f g) (hn : cs.length = n) (k : Res A Z O rs l) : Res A Z O ((t, some (some n)) :: rs) (.agg ⟨cs⟩ :: l) := by
  intro N lo R σ h hs m
  have hb := (m.own _ (At.isin ha)).2
  subst hn
  have := rd_of (o := 0) (n := cs.length) (cells_row hb) (by omega)
  rw [List.drop_zero, List.take_length] at this
  simp only [ress, resOf, getD_of_look hs hl, k N lo R σ h hs m, this, Option.map_some]
def fnQ (lo : Nat) (rs : List (Nat × Option (Option Nat))) (Q : Value → Vw → List Pt → Prop) : Out → Tab → Vw → List Pt → Prop := fun out A Z O => (out = .nrm ∨ out = .ret) ∧ ∃ l, Res A Z O rs l ∧ Upd lo Z O fun Z' O' => Q (tupled l) Z' O'
theorem fn_ret {rs : List (Nat × Option (Option Nat))} {Q : Value → Vw → List Pt → Prop} {l : List Value} (hr : Res A Z O rs l) (k : Upd lo Z O fun Z' O' => Q (tupled l) Z' O') : fnQ lo rs Q .ret A Z O := ⟨.inr rfl, l, hr, k⟩
theorem fn_nrm {rs : List (Nat × Option (Option Nat))} {Q : Value → Vw → List Pt → Prop} {l : List Value} (hr : Res A Z O rs l) (k : Upd lo Z O fun Z' O' => Q (tupled l) Z' O') : fnQ lo rs Q .nrm A Z O := ⟨.inl rfl, l, hr, k⟩
def fnG (lo : Nat) (rs : List (Nat × Option (Option Nat))) (Q : Rv → Vw → List Pt → Prop) : Out → Tab → Vw → List Pt → Prop
  | .pan v, A, Z, O => Upd lo Z O fun Z' O' => Q (.pan v) Z' O'
  | .ext _, _, _, _ => False
  | _, A, Z, O => ∃ l, Res A Z O rs l ∧ Upd lo Z O fun Z' O' => Q (.ret (tupled l)) Z' O'
theorem fnG_ret {rs : List (Nat × Option (Option Nat))} {Q : Rv → Vw → List Pt → Prop} {l : List Value} (hr : Res A Z O rs l) (k : Upd lo Z O fun Z' O' => Q (.ret (tupled l)) Z' O') : fnG lo rs Q .ret A Z O := ⟨l, hr, k⟩
theorem fnG_nrm {rs : List (Nat × Option (Option Nat))} {Q : Rv → Vw → List Pt → Prop} {l : List Value} (hr : Res A Z O rs l) (k : Upd lo Z O fun Z' O' => Q (.ret (tupled l)) Z' O') : fnG lo rs Q .nrm A Z O := ⟨l, hr, k⟩
theorem fnG_pan {rs : List (Nat × Option (Option Nat))} {Q : Rv → Vw → List Pt → Prop} {v : Value} (k : Upd lo Z O fun Z' O' => Q (.pan v) Z' O') : fnG lo rs Q (.pan v) A Z O := k
theorem FnG {k : Nat} {fn : HFn} {vs : List Value} {Q : Rv → Vw → List Pt → Prop} (hF : F k = some fn) (hp : (fn.prim.isNone && fn.sem.isNone) = true) (hl : Nat.ble vs.length fn.ntmps = true) (hb : W F lo fn.body fn.ntmps (argsA 0 vs) Z O (fnG lo fn.res Q)) : CallG F lo k vs Z O Q := by
  intro R h m
  have hp2 : fn.prim = none ∧ fn.sem = none := by simpa using hp
  refine CallsR.body hF hp2.2 hp2.1 ((hb R _ h (Sl.args (Nat.le_of_ble_eq_true hl)) m).mono fun o s g q => ?_)
  obtain ⟨A1, Z1, O1, hs1, z1, m1, k2⟩ := q
  cases o with
  | ext id => exact k2.elim
  | pan v =>
    obtain ⟨Z2, O2, z2, m2, k4⟩ := k2 R g m1
    exact ⟨Z2, O2, z1.trans z2, m2, k4⟩
  | nrm =>
    obtain ⟨l, hr, k3⟩ := k2
    obtain ⟨Z2, O2, z2, m2, k4⟩ := k3 R g m1
    exact ⟨l, hr _ _ _ _ _ hs1 m1, Z2, O2, z1.trans z2, m2, k4⟩
  | ret =>
    obtain ⟨l, hr, k3⟩ := k2
    obtain ⟨Z2, O2, z2, m2, k4⟩ := k3 R g m1
    exact ⟨l, hr _ _ _ _ _ hs1 m1, Z2, O2, z1.trans z2, m2, k4⟩
theorem Fn {k : Nat} {fn : HFn} {vs : List Value} {Q : Value → Vw → List Pt → Prop} (hF : F k = some fn) (hp : (fn.prim.isNone && fn.sem.isNone) = true) (hl : Nat.ble vs.length fn.ntmps = true) (hb : W F lo fn.body fn.ntmps (argsA 0 vs) Z O (fnQ lo fn.res Q)) : Call F lo k vs Z O Q :=
  FnG hF hp hl (W_mono hb fun o A' Z' O' hz q => by
    obtain ⟨rfl | rfl, l, hr, k⟩ := q
    · exact ⟨l, hr, k⟩
    · exact ⟨l, hr, k⟩)
theorem Call_true {k : Nat} {Q : Value → Vw → List Pt → Prop} (hF : F k = some fnTrue) (kk : Q (.bool true) Z O) : Call F lo k [] Z O Q := fun R h m => CallsR.prim hF rfl rfl (show primTrue lo [] h = some (.bool true, h) from rfl) ⟨Z, O, .refl _, m, kk⟩
end
end
end Go.Proofs.Ytlidnionbofkaaa.Hm.V
namespace Go.Proofs.Ytlidnionbofkaaa.Hm.V
noncomputable section
open Go Go.Proofs.Ytlidnionbofkaaa.Hm
set_option linter.all false
set_option linter.unusedSimpArgs false
section
variable {F : Nat → Option HFn} {lo N : Nat} {A : Tab} {Z : Vw} {O : List Pt} {K : Value → Vw → List Pt → Prop}
theorem X_old {op : HOp} (k : ∀ R σ h, Sl N A σ → Mem lo Z (O ++ R) h → ∃ (n : Nat) (v : Value) (h' : Heap) (Z' : Vw) (O' : List Pt), xoper noCall lo σ h op = some (v, h') ∧ Z.le Z' ∧ Mem lo Z' (O' ++ R) h' ∧ K v Z' O') : X F lo op N A Z O K := by
  intro R σ h hs m
  obtain ⟨n, v, h', Z', O', k1, k2, k3, k4⟩ := k R σ h hs m
  exact xoper_R (c := noCall) (fun k vs h v h' hc => by cases hc) k1 ⟨Z', O', k2, k3, k4⟩
theorem X_rds {op : HOp} {v : Value} (hnc : ∀ f xs, op ≠ .call f xs) (hr : Rds lo op N A Z O v) (k : K v Z O) : X F lo op N A Z O K :=
  X_old fun R σ h hs m => ⟨0, v, h, Z, O, by have := hr R σ h hs m; cases op <;> first | exact this | exact absurd rfl (hnc _ _), .refl _, m, k⟩
theorem xo {op : HOp} (hnc : ∀ f xs, op ≠ .call f xs) {c : CallFn} {σ : List Value} {h : Heap} : xoper c lo σ h op = xop lo σ h op := by
  cases op <;> first | rfl | exact absurd rfl (hnc _ _)
theorem X_mv {x : Operand} {v : Value} (hx : evA A x = some v) (k : K v Z O) : X F lo (.mv x) N A Z O K := X_rds (by simp) (fun R σ h hs m => by simp only [xop, xopE, evA_ok hs hx]) k
theorem X_pickT {c a b : Operand} {v : Value} (hc : evA A c = some (.bool true)) (ha : evA A a = some v) (k : K v Z O) : X F lo (.pick c a b) N A Z O K := X_rds (by simp) (fun R σ h hs m => by simp only [xop, xopE, evA_ok hs hc, evA_ok hs ha, if_true]) k
theorem X_pickF {c a b : Operand} {v : Value} (hc : evA A c = some (.bool false)) (hb : evA A b = some v) (k : K v Z O) : X F lo (.pick c a b) N A Z O K := X_rds (by simp) (fun R σ h hs m => by simp only [xop, xopE, evA_ok hs hc, evA_ok hs hb, Bool.false_eq_true, if_false]) k
theorem X_pick {c a b : Operand} {t : Bool} {va vb : Value} (hc : evA A c = some (.bool t)) (ha : evA A a = some va) (hb : evA A b = some vb) (k : K (if t = true then va else vb) Z O) : X F lo (.pick c a b) N A Z O K := X_rds (by simp) (fun R σ h hs m => by simp only [xop, xopE, evA_ok hs hc, evA_ok hs ha, evA_ok hs hb]) k
theorem X_nilchk {x : Operand} {a : Addr} (hx : evA A x = some (.pointer (some a))) (k : K (.pointer (some a)) Z O) : X F lo (.nilchk x) N A Z O K := X_rds (by simp) (fun R σ h hs m => by simp only [xop, xopE, evA_ok hs hx]) k
theorem X_bin {op : BinOp} {x y : Operand} {a b v : Value} (hx : evA A x = some a) (hy : evA A y = some b) (hb : bin op a b = some v) (k : K v Z O) : X F lo (.bin op x y) N A Z O K := X_rds (by simp) (fun R σ h hs m => by simp only [xop, xopE, evA_ok hs hx, evA_ok hs hy, hb, Option.map_some]) k
theorem X_split {op : BinOp} {x y : Operand} {va vb : Value} {p : Prop} [Decidable p] (hx : evA A x = some va) (hy : evA A y = some vb) (hb : bin op va vb = some (.bool (decide p))) (kt : p → K (.bool true) Z O) (kf : ¬ p → K (.bool false) Z O) : X F lo (.bin op x y) N A Z O K := by
  by_cases hp : p
  · refine X_bin hx hy hb ?_
    rw [decide_eq_true hp]; exact kt hp
  · refine X_bin hx hy hb ?_
    rw [decide_eq_false hp]; exact kf hp
theorem X_lss {x y : Operand} {k : IntKind} {a b : Int} (hx : evA A x = some (.int k a)) (hy : evA A y = some (.int k b)) (kt : a < b → K (.bool true) Z O) (kf : b ≤ a → K (.bool false) Z O) : X F lo (.bin .lss x y) N A Z O K := X_split hx hy bin_lss kt (fun h => kf (Int.not_lt.1 h))
theorem X_leq {x y : Operand} {k : IntKind} {a b : Int} (hx : evA A x = some (.int k a)) (hy : evA A y = some (.int k b)) (kt : a ≤ b → K (.bool true) Z O) (kf : b < a → K (.bool false) Z O) : X F lo (.bin .leq x y) N A Z O K := X_split hx hy bin_leq kt (fun h => kf (Int.not_le.1 h))
theorem X_gtr {x y : Operand} {k : IntKind} {a b : Int} (hx : evA A x = some (.int k a)) (hy : evA A y = some (.int k b)) (kt : b < a → K (.bool true) Z O) (kf : a ≤ b → K (.bool false) Z O) : X F lo (.bin .gtr x y) N A Z O K := X_split hx hy bin_gtr kt (fun h => kf (Int.not_lt.1 h))
theorem X_geq {x y : Operand} {k : IntKind} {a b : Int} (hx : evA A x = some (.int k a)) (hy : evA A y = some (.int k b)) (kt : b ≤ a → K (.bool true) Z O) (kf : a < b → K (.bool false) Z O) : X F lo (.bin .geq x y) N A Z O K := X_split hx hy bin_geq kt (fun h => kf (Int.not_le.1 h))
theorem X_eql {x y : Operand} {k : IntKind} {a b : Int} (hx : evA A x = some (.int k a)) (hy : evA A y = some (.int k b)) (kt : a = b → K (.bool true) Z O) (kf : a ≠ b → K (.bool false) Z O) : X F lo (.bin .eql x y) N A Z O K := X_split hx hy bin_eql kt kf
theorem X_neq {x y : Operand} {k : IntKind} {a b : Int} (hx : evA A x = some (.int k a)) (hy : evA A y = some (.int k b)) (kt : a = b → K (.bool false) Z O) (kf : a ≠ b → K (.bool true) Z O) : X F lo (.bin .neq x y) N A Z O K := X_split hx hy bin_neq kf (fun h => kt (Decidable.not_not.1 h))
theorem X_not {x : Operand} {b : Bool} (hx : evA A x = some (.bool b)) (k : K (.bool (!b)) Z O) : X F lo (.un .not x) N A Z O K := X_rds (by simp) (fun R σ h hs m => by simp only [xop, xopE, evA_ok hs hx]; rfl) k
theorem X_conv {k' k : IntKind} {n : Int} {x : Operand} (hx : evA A x = some (.int k' n)) (kk : K (.int k (k.wrap n)) Z O) : X F lo (.convI k x) N A Z O K := X_rds (by simp) (fun R σ h hs m => by simp only [xop, xopE, evA_ok hs hx]) kk
theorem X_min {k' k : IntKind} {a b : Int} {x y : Operand} (hx : evA A x = some (.int k a)) (hy : evA A y = some (.int k' b)) (kk : K (.int k (if b < a then b else a)) Z O) : X F lo (.mm false x y) N A Z O K := X_rds (by simp) (fun R σ h hs m => by simp only [xop, xopE, evA_ok hs hx, evA_ok hs hy, Bool.false_eq_true, if_false]) kk
theorem X_max {k' k : IntKind} {a b : Int} {x y : Operand} (hx : evA A x = some (.int k a)) (hy : evA A y = some (.int k' b)) (kk : K (.int k (if a < b then b else a)) Z O) : X F lo (.mm true x y) N A Z O K := X_rds (by simp) (fun R σ h hs m => by simp only [xop, xopE, evA_ok hs hx, evA_ok hs hy, if_true]) kk
theorem X_addI {x y : Operand} {a b : Int} (hx : evA A x = some (.int .i64 a)) (hy : evA A y = some (.int .i64 b)) (h1 : -9223372036854775808 ≤ a + b) (h2 : a + b < 9223372036854775808) (k : K (.int .i64 (a + b)) Z O) : X F lo (.bin .add x y) N A Z O K :=
  X_bin hx hy (v := .int .i64 (a + b)) (by
    have : bin .add (.int .i64 a) (.int .i64 b) = some (.int .i64 (IntKind.i64.wrap (a + b))) := rfl
    rw [this, wrap_i64 h1 h2]) k
theorem X_subI {x y : Operand} {a b : Int} (hx : evA A x = some (.int .i64 a)) (hy : evA A y = some (.int .i64 b)) (h1 : -9223372036854775808 ≤ a - b) (h2 : a - b < 9223372036854775808) (k : K (.int .i64 (a - b)) Z O) : X F lo (.bin .sub x y) N A Z O K :=
  X_bin hx hy (v := .int .i64 (a - b)) (by
    have : bin .sub (.int .i64 a) (.int .i64 b) = some (.int .i64 (IntKind.i64.wrap (a - b))) := rfl
    rw [this, wrap_i64 h1 h2]) k
theorem X_mulI {x y : Operand} {a b : Int} (hx : evA A x = some (.int .i64 a)) (hy : evA A y = some (.int .i64 b)) (h1 : -9223372036854775808 ≤ a * b) (h2 : a * b < 9223372036854775808) (k : K (.int .i64 (a * b)) Z O) : X F lo (.bin .mul x y) N A Z O K :=
  X_bin hx hy (v := .int .i64 (a * b)) (by
    have : bin .mul (.int .i64 a) (.int .i64 b) = some (.int .i64 (IntKind.i64.wrap (a * b))) := rfl
    rw [this, wrap_i64 h1 h2]) k
theorem X_eq {neg : Bool} {d : EqD} {x y : Operand} {a b : Value} {t : Bool} (hx : evA A x = some a) (hy : evA A y = some b) (hq : eqv d a b = some t) (k : K (.bool (if neg then !t else t)) Z O) : X F lo (.eq neg d x y) N A Z O K := X_rds (by simp) (fun R σ h hs m => by simp only [xop, xopE, evA_ok hs hx, evA_ok hs hy, hq, Option.map_some]) k
theorem X_faddr {off b o : Nat} {x : Operand} (hx : evA A x = some (.pointer (some ⟨b, o, none⟩))) (k : K (.pointer (some ⟨b, o + off, none⟩)) Z O) : X F lo (.faddr off x) N A Z O K := X_rds (by simp) (fun R σ h hs m => by simp only [xop, xopE, evA_ok hs hx]) k
theorem X_extract {x : Operand} {i : Nat} {vs : Array Value} {v : Value} (hx : evA A x = some (.tuple vs)) (hv : vs.toList[i]? = some v) (k : K v Z O) : X F lo (.extract x i) N A Z O K := X_rds (by simp) (fun R σ h hs m => by simp only [xop, xopE, evA_ok hs hx, hv, Option.map_some]) k
theorem X_lens {x : Operand} {s : ByteArray} (hx : evA A x = some (.string s)) (k : K (.int .i64 s.size) Z O) : X F lo (.lens x) N A Z O K := X_rds (by simp) (fun R σ h hs m => by simp only [xop, xopE, evA_ok hs hx]) k
theorem X_indexs {x i : Operand} {s : ByteArray} {k' : IntKind} {j : Int} {c : UInt8} (hx : evA A x = some (.string s)) (hi : evA A i = some (.int k' j)) (h0 : 0 ≤ j) (hc : s.data.toList[j.toNat]? = some c) (k : K (.int .u8 c.toNat) Z O) : X F lo (.indexs x i) N A Z O K :=
  X_rds (by simp) (fun R σ h hs m => by simp only [xop, xopE, evA_ok hs hx, evA_ok hs hi, h0, if_true, hc, Option.map_some]) k
theorem Sees.slice {e : Nat} {v : Value} {xs : List (List Value)} (k : Sees Z O e v xs) {R : List Pt} {h : Heap} (m : Mem lo Z (O ++ R) h) : ∃ a c, v = .slice a xs.length c := let ⟨_, a, c, h1, _⟩ := k lo R h m; ⟨a, c, h1⟩
theorem X_len {x : Operand} {e n : Nat} {v : Value} {xs : List (List Value)} (hx : evA A x = some v) (hs : Sees Z O e v xs) (hn : xs.length = n) (k : K (.int .i64 n) Z O) : X F lo (.len x) N A Z O K :=
  X_rds (by simp) (fun R σ h hσ m => by
    obtain ⟨a, c, rfl⟩ := hs.slice m
    simp only [xop, xopE, evA_ok hσ hx, hn]) k
theorem X_len0 {x : Operand} {a : Option Addr} {n c : Nat} (hx : evA A x = some (.slice a n c)) (k : K (.int .i64 n) Z O) : X F lo (.len x) N A Z O K := X_rds (by simp) (fun R σ h hs m => by simp only [xop, xopE, evA_ok hs hx]) k
theorem X_iaddr {esz e k0 : Nat} {v : Value} {xs : List (List Value)} {k' : IntKind} {j : Int} {x i : Operand} (hx : evA A x = some v) (hi : evA A i = some (.int k' j)) (hs : Sees Z O e v xs) (h0 : 0 ≤ j) (hk : j.toNat = k0) (h1 : k0 < xs.length)
    (k : K (.pointer (some ⟨bb v, oo v + k0 * esz, none⟩)) Z O) : X F lo (.iaddr esz x i) N A Z O K :=
  X_rds (by simp) (fun R σ h hσ m => by
    obtain ⟨⟨s, c, hv⟩, _⟩ := (hs lo R h m).at (List.getElem?_eq_getElem h1)
    have hj : j < (xs.length : Int) := by omega
    have e1 : ev σ x = .slice (some ⟨bb v, oo v, s⟩) xs.length c := (evA_ok hσ hx).trans hv
    simp only [xop, xopE, e1, evA_ok hσ hi, h0, hj, and_self, if_true, hk]) k
theorem map_at {α : Type} [Inhabited α] {f : α → List Value} {l : List α} {k : Nat} (h : k < l.length) : (l.map f)[k]? = some (f (l.getD k default)) := by
  rw [List.getElem?_map, List.getElem?_eq_getElem h, List.getD_eq_getElem?_getD, List.getElem?_eq_getElem h]; rfl
theorem L_el {e k0 o : Nat} {v w : Value} {x : List Value} {xs : List (List Value)} {a : Operand} (ha : evA A a = some (.pointer (some ⟨bb v, oo v + k0 * e + o, none⟩))) (hs : Sees Z O e v xs) (hx : xs[k0]? = some x) (hw : x[o]? = some w) : Rds lo (.load none a) N A Z O w :=
  fun R σ h hσ m => by
    obtain ⟨_, _, _, hr⟩ := (hs lo R h m).at hx
    simp only [xop, xopE, evA_ok hσ ha, rd1_rd hr hw, Option.map_some]
theorem L_el0 {e k0 : Nat} {v w : Value} {x : List Value} {xs : List (List Value)} {a : Operand} (ha : evA A a = some (.pointer (some ⟨bb v, oo v + k0 * e, none⟩))) (hs : Sees Z O e v xs) (hx : xs[k0]? = some x) (hw : x[0]? = some w) : Rds lo (.load none a) N A Z O w :=
  fun R σ h hσ m => by
    obtain ⟨_, _, _, hr⟩ := (hs lo R h m).at hx
    have := rd1_rd hr hw
    rw [Nat.add_zero] at this
    simp only [xop, xopE, evA_ok hσ ha, this, Option.map_some]
theorem L_elA {e k0 : Nat} {v : Value} {x : List Value} {xs : List (List Value)} {a : Operand} (ha : evA A a = some (.pointer (some ⟨bb v, oo v + k0 * e, none⟩))) (hs : Sees Z O e v xs) (hx : xs[k0]? = some x) : Rds lo (.load (some e) a) N A Z O (.agg ⟨x⟩) :=
  fun R σ h hσ m => by
    obtain ⟨_, _, _, hr⟩ := (hs lo R h m).at hx
    simp only [xop, xopE, evA_ok hσ ha, hr, Option.map_some]
theorem L_elP {e k0 o n : Nat} {v : Value} {x : List Value} {xs : List (List Value)} {a : Operand} (ha : evA A a = some (.pointer (some ⟨bb v, oo v + k0 * e + o, none⟩))) (hs : Sees Z O e v xs) (hx : xs[k0]? = some x) (hn : Nat.ble (o + n) e = true) : Rds lo (.load (some n) a) N A Z O (.agg ⟨(x.drop o).take n⟩) :=
  fun R σ h hσ m => by
    obtain ⟨_, _, _, hr⟩ := (hs lo R h m).at hx
    simp only [xop, xopE, evA_ok hσ ha, rd_rd hr (Nat.le_of_ble_eq_true hn), Option.map_some]
theorem L_box {b o : Nat} {w : Value} {cs : List Value} {f : Pt → List Pt} {g : List Pt} {a : Operand} (ha : evA A a = some (.pointer (some ⟨b, o, none⟩))) (hat : At O (.box b cs) f g) (hw : cs[o]? = some w) : Rds lo (.load none a) N A Z O w :=
  fun R σ h hσ m => by
    have hb := (m.own _ (At.isin hat)).2
    simp only [xop, xopE, evA_ok hσ ha, rd1_of (cells_row hb) hw, Option.map_some]
theorem L_boxA {b n : Nat} {cs : List Value} {f : Pt → List Pt} {g : List Pt} {a : Operand} (ha : evA A a = some (.pointer (some ⟨b, 0, none⟩))) (hat : At O (.box b cs) f g) (hn : cs.length = n) : Rds lo (.load (some n) a) N A Z O (.agg ⟨cs⟩) :=
  fun R σ h hσ m => by
    have hb := (m.own _ (At.isin hat)).2
    subst hn
    have := rd_of (o := 0) (n := cs.length) (cells_row hb) (by omega)
    rw [List.drop_zero, List.take_length] at this
    simp only [xop, xopE, evA_ok hσ ha, this, Option.map_some]
theorem L_boxP {b o n : Nat} {cs : List Value} {f : Pt → List Pt} {g : List Pt} {a : Operand} (ha : evA A a = some (.pointer (some ⟨b, o, none⟩))) (hat : At O (.box b cs) f g) (hn : o + n ≤ cs.length) : Rds lo (.load (some n) a) N A Z O (.agg ⟨(cs.drop o).take n⟩) :=
  fun R σ h hσ m => by
    have hb := (m.own _ (At.isin hat)).2
    simp only [xop, xopE, evA_ok hσ ha, rd_of (cells_row hb) hn, Option.map_some]
theorem X_load {agg : Option Nat} {a : Operand} {v : Value} (hr : Rds lo (.load agg a) N A Z O v) (k : K v Z O) : X F lo (.load agg a) N A Z O K := X_rds (by simp) hr k
theorem X_alloc {z : List Value} (k : ∀ b, K (.pointer (some ⟨b, 0, none⟩)) Z (.box b z :: O)) : X F lo (.alloc z) N A Z O K :=
  X_old fun R σ h hs m => ⟨0, _, h.new z, Z, .box h.n z :: O, by rw [xo (by simp)]; simp only [xop, xopE], .refl _, m.box z, k h.n⟩
theorem X_box {x : Operand} {v : Value} {cs : List Value} (hx : evA A x = some v) (hc : cellsV v = some cs) (k : ∀ b, K (.pointer (some ⟨b, 0, none⟩)) Z (.box b cs :: O)) : X F lo (.box x) N A Z O K :=
  X_old fun R σ h hs m => ⟨0, _, h.new cs, Z, .box h.n cs :: O, by rw [xo (by simp)]; simp only [xop, xopE, evA_ok hs hx, hc], .refl _, m.box cs, k h.n⟩
def chunk (e : Nat) : Nat → List Value → List (List Value)
  | 0, _ => []
  | n + 1, l => l.take e :: chunk e n (l.drop e)
theorem chunk_ok {e : Nat} : ∀ {n : Nat} {l : List Value}, l.length = n * e → (chunk e n l).flatten = l ∧ (chunk e n l).length = n ∧ ∀ x ∈ chunk e n l, x.length = e
  | 0, l, h => by
    have : l = [] := List.length_eq_zero_iff.1 (by simpa using h)
    subst this
    exact ⟨rfl, rfl, fun x hx => absurd hx (by simp [chunk])⟩
  | n + 1, l, h => by
    have h1 : e ≤ l.length := by rw [h, Nat.succ_mul]; omega
    obtain ⟨a, b, c⟩ := chunk_ok (e := e) (n := n) (l := l.drop e) (by rw [List.length_drop, h, Nat.succ_mul]; omega)
    refine ⟨by simp [chunk, a], by simp [chunk, b], fun x hx => ?_⟩
    simp only [chunk, List.mem_cons] at hx
    rcases hx with rfl | hx
    · rw [List.length_take]; omega
    · exact c x hx
theorem X_mkmap (k : ∀ v, K v Z (.map v [] :: O)) : X F lo .mkmap N A Z O K :=
  X_old fun R σ h hs m => ⟨0, .map (some h.n), h.newMap, Z, .map (.map (some h.n)) [] :: O, by rw [xo (by simp)]; simp only [xop, xopE], .refl _, m.mkmap, k _⟩
theorem put_row {lo b : Nat} {h : Heap} {cs cs' : List Value} (hb : h.get b = some (.row cs none)) (hlo : lo ≤ b) : h.put lo b cs' = some (h.setB b (.row cs' none)) := by
  unfold Heap.put
  rw [if_neg (by omega), hb]
theorem wr_row {lo b o : Nat} {h : Heap} {cs vs : List Value} (hb : h.get b = some (.row cs none)) (hlo : lo ≤ b) (ho : o + vs.length ≤ cs.length) : h.wr lo b o vs = some (h.setB b (.row (cs.take o ++ (vs ++ cs.drop (o + vs.length))) none)) := by
  rw [Heap.wr_def]
  rw [cells_row hb]
  simp only [if_pos ho]
  exact put_row hb hlo
theorem X_storeB {n b o : Nat} {v : Value} {vs cs cs' : List Value} {f : Pt → List Pt} {g : List Pt} {a x : Operand} (ha : evA A a = some (.pointer (some ⟨b, o, none⟩))) (hx : evA A x = some v) (hc : cellsV v = some vs) (hn : Nat.beq vs.length n = true) (hat : At O (.box b cs) f g) (ho : Nat.ble (o + n) cs.length = true)
    (hcs : cs.take o ++ (vs ++ cs.drop (o + n)) = cs') (k : K undef Z (f (.box b cs'))) : X F lo (.store n a x) N A Z O K :=
  X_old fun R σ h hs m => by
    have hn := Nat.eq_of_beq_eq_true hn
    have ho := Nat.le_of_ble_eq_true ho
    subst hn; subst hcs
    have m1 := At.mem hat m
    have hb := m1.own _ List.mem_cons_self
    refine ⟨0, undef, _, Z, _, ?_, .refl _, At.back hat (m1.setRow (o := .box b cs) (o' := .box b (cs.take o ++ (vs ++ cs.drop (o + vs.length)))) (b := b) (cs' := cs.take o ++ (vs ++ cs.drop (o + vs.length))) rfl rfl hb.2 ⟨hb.1, ?_⟩), k⟩
    · rw [xo (by simp)]
      simp only [xop, xopE, evA_ok hs ha, evA_ok hs hx, hc, if_true, wr_row hb.2 hb.1 ho, Option.map_some]
    · rw [Heap.get_setB hb.2, if_pos rfl]
theorem lt_of_getElem? {α : Type} {l : List α} {k : Nat} {x : α} (h : l[k]? = some x) : k < l.length := by
  rcases Nat.lt_or_ge k l.length with h1 | h1
  · exact h1
  · rw [List.getElem?_eq_none h1] at h; cases h
theorem flat_le {e k : Nat} {x : List Value} {xs : List (List Value)} (hx : ∀ x ∈ xs, x.length = e) (hk : xs[k]? = some x) : k * e + e ≤ xs.flatten.length := by
  rw [flatten_len hx, ← Nat.succ_mul]; exact Nat.mul_le_mul_right _ (lt_of_getElem? hk)
theorem patch_len {e o : Nat} {x vs : List Value} (hx : x.length = e) (ho : o + vs.length ≤ e) : (x.take o ++ (vs ++ x.drop (o + vs.length))).length = e := by
  simp only [List.length_append, List.length_take, List.length_drop]; omega
theorem X_storeArr {n e c k0 o : Nat} {v w : Value} {vs x : List Value} {xs : List (List Value)} {f : Pt → List Pt} {g : List Pt} {a y : Operand} (ha : evA A a = some (.pointer (some ⟨bb v, oo v + k0 * e + o, none⟩))) (hy : evA A y = some w) (hc : cellsV w = some vs) (hn : Nat.beq vs.length n = true) (hat : At O (.arr v e c xs) f g)
    (hx : xs[k0]? = some x) (ho : Nat.ble (o + n) e = true) (k : K undef Z (f (.arr v e c (xs.set k0 (x.take o ++ (vs ++ x.drop (o + n))))))) : X F lo (.store n a y) N A Z O K :=
  X_old fun R σ h hs m => by
    have hn := Nat.eq_of_beq_eq_true hn
    have ho := Nat.le_of_ble_eq_true ho
    subst hn
    have m1 := At.mem hat m
    obtain ⟨b, sp, rfl, h1, h2, h3, h4, h5⟩ := m1.own _ List.mem_cons_self
    have hle := flat_le h5 hx
    have hbnd : k0 * e + o + vs.length ≤ (xs.flatten ++ sp).length := by rw [List.length_append]; omega
    have hfs := flat_set (sp := sp) ho h5 hx
    have hxl := h5 x (List.mem_of_getElem? hx)
    refine ⟨0, undef, _, Z, _, ?_, .refl _, At.back hat (m1.setRow (o' := .arr (.slice (some ⟨b, 0, none⟩) xs.length c) e c (xs.set k0 (x.take o ++ (vs ++ x.drop (o + vs.length))))) (b := b) rfl rfl h2 (cs' := (xs.set k0 (x.take o ++ (vs ++ x.drop (o + vs.length)))).flatten ++ sp) ?_), k⟩
    · rw [xo (by simp)]
      have ha' : evA A a = some (.pointer (some ⟨b, k0 * e + o, none⟩)) := by rw [ha]; simp [bb, oo]
      simp only [xop, xopE, evA_ok hs ha', evA_ok hs hy, hc, if_true, wr_row h2 h1 hbnd, Option.map_some, hfs]
    · refine ⟨b, sp, by simp, h1, by rw [Heap.get_setB h2, if_pos rfl], by simpa using h3, by simpa using h4, fun y hy => ?_⟩
      rcases List.mem_or_eq_of_mem_set hy with hy | rfl
      · exact h5 y hy
      · exact patch_len hxl ho
theorem X_storeArr0 {n e c k0 : Nat} {v w : Value} {vs x : List Value} {xs : List (List Value)} {f : Pt → List Pt} {g : List Pt} {a y : Operand} (ha : evA A a = some (.pointer (some ⟨bb v, oo v + k0 * e, none⟩))) (hy : evA A y = some w) (hc : cellsV w = some vs) (hn : Nat.beq vs.length n = true) (hat : At O (.arr v e c xs) f g)
    (hx : xs[k0]? = some x) (ho : Nat.beq n e = true) (k : K undef Z (f (.arr v e c (xs.set k0 vs)))) : X F lo (.store n a y) N A Z O K := by
  have ho' := Nat.eq_of_beq_eq_true ho
  have hn' := Nat.eq_of_beq_eq_true hn
  intro R σ h hs m
  have hxl : x.length = e := by
    obtain ⟨b, sp, rfl, h1, h2, h3, h4, h5⟩ := (At.mem hat m).own _ List.mem_cons_self
    exact h5 x (List.mem_of_getElem? hx)
  refine X_storeArr (K := K) (o := 0) (by rw [Nat.add_zero]; exact ha) hy hc hn hat hx (Nat.ble_eq_true_of_le (by omega)) ?_ R σ h hs m
  rw [List.take_zero, List.nil_append, Nat.zero_add, List.drop_of_length_le (by omega), List.append_nil]
  exact k
theorem X_storeGro {n e k0 o : Nat} {v w : Value} {vs x : List Value} {xs : List (List Value)} {f : Pt → List Pt} {g : List Pt} {a y : Operand} (ha : evA A a = some (.pointer (some ⟨bb v, oo v + k0 * e + o, none⟩))) (hy : evA A y = some w) (hc : cellsV w = some vs) (hn : Nat.beq vs.length n = true) (hat : At O (.gro v e xs) f g)
    (hx : xs[k0]? = some x) (ho : Nat.ble (o + n) e = true) (k : K undef Z (f (.gro v e (xs.set k0 (x.take o ++ (vs ++ x.drop (o + n))))))) : X F lo (.store n a y) N A Z O K :=
  X_old fun R σ h hs m => by
    have hn := Nat.eq_of_beq_eq_true hn
    have ho := Nat.le_of_ble_eq_true ho
    subst hn
    have m1 := At.mem hat m
    obtain ⟨h5, he, ⟨rfl, rfl⟩ | ⟨b, c, fl, rfl, h1, h2, h3, h4⟩ | ⟨b, rfl, h1, h2⟩⟩ := m1.own _ List.mem_cons_self
    · simp at hx
    rotate_left
    · have hle := flat_le h5 hx
      have hbnd : k0 * e + o + vs.length ≤ xs.flatten.length := by omega
      have hfs := flat_set (sp := []) ho h5 hx
      simp only [List.append_nil] at hfs
      have hxl := h5 x (List.mem_of_getElem? hx)
      refine ⟨0, undef, _, Z, _, ?_, .refl _, At.back hat (m1.setRow (o' := .gro (.slice (some ⟨b, 0, none⟩) xs.length xs.length) e (xs.set k0 (x.take o ++ (vs ++ x.drop (o + vs.length))))) (b := b) rfl rfl h2 (cs' := (xs.set k0 (x.take o ++ (vs ++ x.drop (o + vs.length)))).flatten) ⟨fun y hy => ?_, he, .inr (.inr ⟨b, by simp, h1, by rw [Heap.get_setB h2, if_pos rfl]⟩)⟩), k⟩
      · rw [xo (by simp)]
        have ha' : evA A a = some (.pointer (some ⟨b, k0 * e + o, none⟩)) := by rw [ha]; simp [bb, oo]
        simp only [xop, xopE, evA_ok hs ha', evA_ok hs hy, hc, if_true, wr_row h2 h1 hbnd, Option.map_some, hfs]
      · rcases List.mem_or_eq_of_mem_set hy with hy | rfl
        · exact h5 y hy
        · exact patch_len hxl ho
    have hle := flat_le h5 hx
    have hbnd : k0 * e + o + vs.length ≤ xs.flatten.length := by omega
    have hfs := flat_set (sp := []) ho h5 hx
    simp only [List.append_nil] at hfs
    have hxl := h5 x (List.mem_of_getElem? hx)
    refine ⟨0, undef, _, Z, _, ?_, .refl _, At.back hat (m1.setGro (xs' := xs.set k0 (x.take o ++ (vs ++ x.drop (o + vs.length)))) h2 h3 (by simp) (by simp) fun y hy => ?_), k⟩
    · rw [xo (by simp)]
      have ha' : evA A a = some (.pointer (some ⟨b, k0 * e + o, none⟩)) := by rw [ha]; simp [bb, oo]
      have hw : h.wr lo b (k0 * e + o) vs = some ((h.setB b (.row (xs.set k0 (x.take o ++ (vs ++ x.drop (o + vs.length)))).flatten (some c))).setC c (b, b)) := by
        rw [Heap.wr_def]
        rw [cells_cls h2 h3 h4]
        simp only [if_pos hbnd, hfs]
        unfold Heap.put
        rw [if_neg (by omega), h2]
        simp only [h3, if_true]
      simp only [xop, xopE, evA_ok hs ha', evA_ok hs hy, hc, if_true, hw, Option.map_some]
    · rcases List.mem_or_eq_of_mem_set hy with hy | rfl
      · exact h5 y hy
      · exact patch_len hxl ho
theorem X_storeGro0 {n e k0 : Nat} {v w : Value} {vs x : List Value} {xs : List (List Value)} {f : Pt → List Pt} {g : List Pt} {a y : Operand} (ha : evA A a = some (.pointer (some ⟨bb v, oo v + k0 * e, none⟩))) (hy : evA A y = some w) (hc : cellsV w = some vs) (hn : Nat.beq vs.length n = true) (hat : At O (.gro v e xs) f g)
    (hx : xs[k0]? = some x) (ho : Nat.beq n e = true) (k : K undef Z (f (.gro v e (xs.set k0 vs)))) : X F lo (.store n a y) N A Z O K := by
  have ho' := Nat.eq_of_beq_eq_true ho
  have hn' := Nat.eq_of_beq_eq_true hn
  intro R σ h hs m
  have hxl : x.length = e := ((At.mem hat m).own _ List.mem_cons_self).1 x (List.mem_of_getElem? hx)
  refine X_storeGro (K := K) (o := 0) (by rw [Nat.add_zero]; exact ha) hy hc hn hat hx (Nat.ble_eq_true_of_le (by omega)) ?_ R σ h hs m
  rw [List.take_zero, List.nil_append, Nat.zero_add, List.drop_of_length_le (by omega), List.append_nil]
  exact k
def findM (d : Hm.EqD) (k : Value) : List (Value × Value) → Option (Option Value)
  | [] => some none
  | (k', v) :: es => match eqv d k k' with
    | some true => some (some v)
    | some false => findM d k es
    | none => none
def placeM (d : EqD) (k : Value) : List (Value × Value) → Nat → Option (Option Nat)
  | [], _ => some none
  | (k', v) :: es, i => match eqv d k k' with
    | some true => some (some i)
    | some false => placeM d k es (i + 1)
    | none => none
theorem findM_ok {d : EqD} {k : Value} : ∀ {es : List (Value × Value × Nat)} {i : Nat} {r : Option Value}, findM d k (ents es) = some r → ∃ q, findL d k es i = some q ∧ q.map (·.2) = r
  | [], i, r, h => by cases h; exact ⟨none, rfl, rfl⟩
  | (k', v, a) :: es, i, r, h => by
    simp only [ents, List.map_cons, findM] at h
    simp only [findL]
    split at h
    · rename_i e; cases h; simp only [e]; exact ⟨_, rfl, rfl⟩
    · rename_i e; simp only [e]; exact findM_ok h
    · cases h
theorem placeM_ok {d : EqD} {k : Value} : ∀ {es : List (Value × Value × Nat)} {i : Nat} {r : Option Nat}, placeM d k (ents es) i = some r → ∃ q, findL d k es i = some q ∧ q.map (·.1) = r ∧ ∀ j v, q = some (j, v) → i ≤ j ∧ ∃ a, es[j - i]? = some a
  | [], i, r, h => by cases h; exact ⟨none, rfl, rfl, fun j v e => by cases e⟩
  | (k', v, a) :: es, i, r, h => by
    simp only [ents, List.map_cons, placeM] at h
    simp only [findL]
    split at h
    · rename_i e; cases h; simp only [e]
      exact ⟨_, rfl, rfl, fun j v e => by cases e; exact ⟨Nat.le_refl _, _, by rw [Nat.sub_self]; rfl⟩⟩
    · rename_i e; simp only [e]
      obtain ⟨q, q1, q2, q3⟩ := placeM_ok h
      refine ⟨q, q1, q2, fun j v e => ?_⟩
      obtain ⟨h1, a, h2⟩ := q3 j v e
      refine ⟨by omega, a, ?_⟩
      have : j - i = (j - (i + 1)) + 1 := by omega
      rw [this]; simpa using h2
    · cases h
theorem X_lookup {d : EqD} {zero : Value} {m0 k0 : Operand} {ok : Bool} {v kv : Value} {es : List (Value × Value)} {r : Option Value} {f : Pt → List Pt} {g : List Pt} (hm : evA A m0 = some v) (hk : evA A k0 = some kv) (hat : At O (.map v es) f g) (hko : keyOk d kv = true) (hf : findM d kv es = some r)
    (k : K (if ok then .tuple #[r.getD zero, .bool r.isSome] else r.getD zero) Z O) : X F lo (.lookup d zero m0 k0 ok) N A Z O K :=
  X_rds (by simp) (fun R σ h hσ m => by
    obtain ⟨b, es', t, rfl, h1, h2, rfl⟩ := m.own _ (At.isin hat)
    obtain ⟨q, q1, q2⟩ := findM_ok (i := 0) hf
    simp only [xop, xopE, evA_ok hσ hm, evA_ok hσ hk, Heap.entries, h2, hko, if_true, q1]
    cases q with
    | none => simp only [Option.map_none] at q2; subst q2; rfl
    | some p => simp only [Option.map_some] at q2; subst q2; rfl) k
def putM (kv x : Value) (es : List (Value × Value)) : Option Nat → List (Value × Value)
  | some i => es.set i (kv, x)
  | none => es ++ [(kv, x)]
theorem ents_set {es : List (Value × Value × Nat)} {i : Nat} {a : Value × Value × Nat} : ents (es.set i a) = (ents es).set i (a.1, a.2.1) := by simp [ents, List.map_set]
theorem X_mput {d : EqD} {m0 k0 x0 : Operand} {v kv x : Value} {es : List (Value × Value)} {r : Option Nat} {f : Pt → List Pt} {g : List Pt} (hm : evA A m0 = some v) (hk : evA A k0 = some kv) (hx : evA A x0 = some x) (hat : At O (.map v es) f g) (hko : keyOk d kv = true) (hf : placeM d kv es 0 = some r)
    (k : K undef Z (f (.map v (putM kv x es r)))) : X F lo (.mput d m0 k0 x0) N A Z O K :=
  X_old fun R σ h hσ m => by
    have m1 := At.mem hat m
    obtain ⟨b, es', t, rfl, h1, h2, rfl⟩ := m1.own _ List.mem_cons_self
    obtain ⟨q, q1, q2, q3⟩ := placeM_ok hf
    have hlo : ¬ b < lo := by omega
    cases q with
    | none =>
      simp only [Option.map_none] at q2; subst q2
      refine ⟨0, undef, h.setB b (.map (es' ++ [(kv, x, t)]) (t + 1)), Z, _, ?_, .refl _, At.back hat (m1.setMap (o' := .map (.map (some b)) (putM kv x (ents es') none)) (b := b) rfl rfl h2 (fun cs c e => by cases e) ⟨b, _, _, rfl, h1, by rw [Heap.get_setB h2, if_pos rfl], by simp [ents, putM]⟩), k⟩
      rw [xo (by simp)]
      simp only [xop, xopE, evA_ok hσ hm, evA_ok hσ hk, evA_ok hσ hx, if_neg hlo, h2, hko, if_true, q1]
    | some p =>
      obtain ⟨i, w⟩ := p
      simp only [Option.map_some] at q2; subst q2
      obtain ⟨_, a, ha⟩ := q3 i w rfl
      rw [Nat.sub_zero] at ha
      obtain ⟨a1, a2, a3⟩ := a
      refine ⟨0, undef, h.setB b (.map (es'.set i (kv, x, a3)) t), Z, _, ?_, .refl _, At.back hat (m1.setMap (o' := .map (.map (some b)) (putM kv x (ents es') (some i))) (b := b) rfl rfl h2 (fun cs c e => by cases e) ⟨b, _, _, rfl, h1, by rw [Heap.get_setB h2, if_pos rfl], by rw [ents_set]; rfl⟩), k⟩
      rw [xo (by simp)]
      simp only [xop, xopE, evA_ok hσ hm, evA_ok hσ hk, evA_ok hσ hx, if_neg hlo, h2, hko, if_true, q1, ha]
theorem XG_call {f : Operand} {args : List Operand} {k : Nat} {first captured : Array Value} {vs : List Value} {O1 : List Pt} {K : Rv → Vw → List Pt → Prop} (hf : evA A f = some (.func (.func k) first captured)) (ha : evsA A args = some vs) (O2 : List Pt) (hO : ∀ R, (O ++ R).Perm (O1 ++ (O2 ++ R)))
    (kk : CallG F lo k ((first.toList ++ vs) ++ captured.toList) Z O1 fun v Z' O1' => K v Z' (O1' ++ O2)) : XG F lo (.call f args) N A Z O K := by
  intro R σ h hs m
  refine ⟨k, _, _, ?_, kk (O2 ++ R) h (m.perm (hO R)), fun r g q => ?_⟩
  · simp only [callee, evA_ok hs hf, evsA_ok hs ha]
  · obtain ⟨Z', O', z1, m1, k2⟩ := q
    exact ⟨Z', O' ++ O2, z1, by rw [List.append_assoc]; exact m1, k2⟩
theorem X_call {f : Operand} {args : List Operand} {k : Nat} {first captured : Array Value} {vs : List Value} {O1 : List Pt} (hf : evA A f = some (.func (.func k) first captured)) (ha : evsA A args = some vs) (O2 : List Pt) (hO : ∀ R, (O ++ R).Perm (O1 ++ (O2 ++ R)))
    (kk : Call F lo k ((first.toList ++ vs) ++ captured.toList) Z O1 fun v Z' O1' => K v Z' (O1' ++ O2)) : X F lo (.call f args) N A Z O K :=
  XG_call hf ha O2 hO (CallG.mono kk fun r Z' O' hz q => by
    cases r with
    | ret v => exact q
    | pan v => exact q)
theorem XG_pan {x : Operand} {t : TypeId} {v : Value} {K : Rv → Vw → List Pt → Prop} (hx : evA A x = some (.iface t v)) (k : K (.pan (.iface t v)) Z O) : XG F lo (.pan x) N A Z O K := fun R σ h hs m => ⟨t, v, evA_ok hs hx, Z, O, .refl _, m, k⟩
theorem X_call0 {args : List Operand} {k : Nat} {vs : List Value} (ha : evsA A args = some vs) (kk : Call F lo k vs Z [] fun v Z' O1' => K v Z' (O1' ++ O)) : X F lo (.call (.func k) args) N A Z O K :=
  X_call (f := .func k) (O1 := []) rfl ha O (fun R => by simp) (by simpa using kk)
theorem X_call1 {args : List Operand} {k : Nat} {vs : List Value} {o : Pt} {f : Pt → List Pt} {g : List Pt} (ha : evsA A args = some vs) (hat : At O o f g) (kk : Call F lo k vs Z [o] fun v Z' O1' => K v Z' (O1' ++ g)) : X F lo (.call (.func k) args) N A Z O K :=
  X_call (f := .func k) (O1 := [o]) rfl ha g (fun R => (At.append (R := R) hat).perm.1) (by simpa using kk)
def Cel (Z : Vw) (O : List Pt) (v : Value) (vs : List Value) : Prop := ∀ lo R h, Mem lo Z (O ++ R) h → cellsV v = some vs
theorem Cel.val {v : Value} {vs : List Value} (hc : cellsV v = some vs) : Cel Z O v vs := fun _ _ _ _ => hc
theorem Cel.sees {e : Nat} {v : Value} {xs : List (List Value)} (hs : Sees Z O e v xs) : Cel Z O v [v] := fun lo R h m => by
  obtain ⟨a, c, rfl⟩ := hs.slice m; rfl
theorem Cel.map {v : Value} {es : List (Value × Value)} {f : Pt → List Pt} {g : List Pt} (hat : At O (.map v es) f g) : Cel Z O v [v] := fun lo R h m => by
  obtain ⟨b, es', t, rfl, _⟩ := m.own _ (At.isin hat); rfl
theorem X_boxC {x : Operand} {v : Value} {cs : List Value} (hx : evA A x = some v) (hc : Cel Z O v cs) (k : ∀ b, K (.pointer (some ⟨b, 0, none⟩)) Z (.box b cs :: O)) : X F lo (.box x) N A Z O K :=
  fun R σ h hs m => X_box (K := K) hx (hc lo R h m) k R σ h hs m
theorem X_storeBC {n b o : Nat} {v : Value} {vs cs cs' : List Value} {f : Pt → List Pt} {g : List Pt} {a x : Operand} (ha : evA A a = some (.pointer (some ⟨b, o, none⟩))) (hx : evA A x = some v) (hc : Cel Z O v vs) (hn : Nat.beq vs.length n = true) (hat : At O (.box b cs) f g) (ho : Nat.ble (o + n) cs.length = true)
    (hcs : cs.take o ++ (vs ++ cs.drop (o + n)) = cs') (k : K undef Z (f (.box b cs'))) : X F lo (.store n a x) N A Z O K :=
  fun R σ h hs m => X_storeB (K := K) ha hx (hc lo R h m) hn hat ho hcs k R σ h hs m
theorem X_storeArr0C {n e c k0 : Nat} {v w : Value} {vs x : List Value} {xs : List (List Value)} {f : Pt → List Pt} {g : List Pt} {a y : Operand} (ha : evA A a = some (.pointer (some ⟨bb v, oo v + k0 * e, none⟩))) (hy : evA A y = some w) (hc : Cel Z O w vs) (hn : Nat.beq vs.length n = true) (hat : At O (.arr v e c xs) f g)
    (hx : xs[k0]? = some x) (ho : Nat.beq n e = true) (k : K undef Z (f (.arr v e c (xs.set k0 vs)))) : X F lo (.store n a y) N A Z O K :=
  fun R σ h hs m => X_storeArr0 (K := K) ha hy (hc lo R h m) hn hat hx ho k R σ h hs m
theorem X_storeGro0C {n e k0 : Nat} {v w : Value} {vs x : List Value} {xs : List (List Value)} {f : Pt → List Pt} {g : List Pt} {a y : Operand} (ha : evA A a = some (.pointer (some ⟨bb v, oo v + k0 * e, none⟩))) (hy : evA A y = some w) (hc : Cel Z O w vs) (hn : Nat.beq vs.length n = true) (hat : At O (.gro v e xs) f g)
    (hx : xs[k0]? = some x) (ho : Nat.beq n e = true) (k : K undef Z (f (.gro v e (xs.set k0 vs)))) : X F lo (.store n a y) N A Z O K :=
  fun R σ h hs m => X_storeGro0 (K := K) ha hy (hc lo R h m) hn hat hx ho k R σ h hs m
inductive Parts (A : Tab) (Z : Vw) (O : List Pt) : List (Nat × Nat × Operand) → List (Nat × Nat × List Value) → Prop
  | nil : Parts A Z O [] []
  | cons {o s : Nat} {x : Operand} {v : Value} {vs : List Value} {ps : List (Nat × Nat × Operand)} {r : List (Nat × Nat × List Value)} (hx : evA A x = some v) (hc : Cel Z O v vs) (k : Parts A Z O ps r) : Parts A Z O ((o, s, x) :: ps) ((o, s, vs) :: r)
def fillC : List Value → List (Nat × Nat × List Value) → Option (List Value)
  | cs, [] => some cs
  | cs, (off, size, vs) :: rest => match Nat.beq vs.length size, Nat.ble (off + size) cs.length with
    | true, true => fillC (cs.take off ++ (vs ++ cs.drop (off + size))) rest
    | _, _ => none
theorem Parts.fill {lo : Nat} {R : List Pt} {h : Heap} (m : Mem lo Z (O ++ R) h) {σ : List Value} (hs : Sl N A σ) : ∀ {ps : List (Nat × Nat × Operand)} {r : List (Nat × Nat × List Value)} {z cs : List Value}, Parts A Z O ps r → fillC z r = some cs → fillL z (ps.map fun p => (p.1, p.2.1, ev σ p.2.2)) = some cs := by
  intro ps r z cs hp
  induction hp generalizing z with
  | nil => exact fun h => h
  | cons hx hc k ih =>
    rename_i o s x v vs ps r
    intro hf
    simp only [fillC] at hf
    split at hf
    · rename_i h1 h2
      rw [List.map_cons]
      simp only [fillL, evA_ok hs hx, hc lo R h m]
      rw [if_pos ⟨Nat.eq_of_beq_eq_true h1, Nat.le_of_ble_eq_true h2⟩]
      exact ih hf
    · cases hf
theorem X_buildC {z : List Value} {parts : List (Nat × Nat × Operand)} {r : List (Nat × Nat × List Value)} {cs : List Value} (hp : Parts A Z O parts r) (hf : fillC z r = some cs) (k : K (.agg ⟨cs⟩) Z O) : X F lo (.build z parts) N A Z O K :=
  X_rds (by simp) (fun R σ h hs m => by simp only [xop, xopE, hp.fill m hs hf]) k
theorem X_bsliceC {esz len : Nat} {z : List Value} {parts : List (Nat × Operand)} {r : List (Nat × Nat × List Value)} {cs : List Value} {xs : List (List Value)} (hp : Parts A Z O (parts.map fun p => (p.1 * esz, esz, p.2)) r) (hf : fillC (List.replicate len z).flatten r = some cs) (hl : Nat.beq cs.length (len * esz) = true) (hxs : chunk esz len cs = xs)
    (k : ∀ v, K v Z (.arr v esz len xs :: O)) : X F lo (.bslice esz len z parts) N A Z O K :=
  X_old fun R σ h hs m => by
    subst hxs
    obtain ⟨c1, c2, c3⟩ := chunk_ok (Nat.eq_of_beq_eq_true hl)
    have hm := m.arr (e := esz) (c := len) (xs := chunk esz len cs) (sp := []) c3 (by omega) (by simp [c2])
    rw [c2, c1, List.append_nil] at hm
    have hfill := hp.fill m hs hf
    rw [List.map_map] at hfill
    refine ⟨0, .slice (some ⟨h.n, 0, none⟩) len len, h.new cs, Z, _ :: O, ?_, .refl _, hm, k _⟩
    rw [xo (by simp)]
    simp only [xop, xopE]
    have : (parts.map fun p => (p.1 * esz, esz, ev σ p.2)) = List.map ((fun p : Nat × Nat × Operand => (p.1, p.2.1, ev σ p.2.2)) ∘ fun p : Nat × Operand => (p.1 * esz, esz, p.2)) parts := rfl
    rw [this, hfill]
def CallP (F : Nat → Option HFn) (lo k : Nat) (vs : List Value) (Z : Vw) (Q : Value → Vw → Prop) : Prop := Call F lo k vs Z [] fun v Z' O' => O' = [] ∧ Q v Z'
theorem X_callP {args : List Operand} {k : Nat} {vs : List Value} {Q : Value → Vw → Prop} (ha : evsA A args = some vs) (hc : CallP F lo k vs Z Q) (kk : ∀ v Z', Z.le Z' → Q v Z' → K v Z' O) : X F lo (.call (.func k) args) N A Z O K :=
  X_call0 ha (hc.mono fun v Z' O' hz hq => by
    obtain ⟨rfl, hq⟩ := hq
    exact kk v Z' hz hq)
theorem CallP.mono {k : Nat} {vs : List Value} {Q Q' : Value → Vw → Prop} (hc : CallP F lo k vs Z Q) (hq : ∀ v Z', Z.le Z' → Q v Z' → Q' v Z') : CallP F lo k vs Z Q' :=
  Call.mono hc fun v Z' O' hz h => ⟨h.1, hq v Z' hz h.2⟩
theorem FnP {k : Nat} {fn : HFn} {vs : List Value} {Q : Value → Vw → Prop} (hF : F k = some fn) (hp : (fn.prim.isNone && fn.sem.isNone) = true) (hl : Nat.ble vs.length fn.ntmps = true) (hb : W F lo fn.body fn.ntmps (argsA 0 vs) Z [] (fnQ lo fn.res fun v Z' O' => O' = [] ∧ Q v Z')) : CallP F lo k vs Z Q := Fn hF hp hl hb
theorem fnP_ret {rs : List (Nat × Option (Option Nat))} {Q : Value → Vw → Prop} {l : List Value} (hr : Res A Z O rs l) (k : Q (tupled l) Z) : fnQ lo rs (fun v Z' O' => O' = [] ∧ Q v Z') .ret A Z O := fn_ret hr (Upd.nil ⟨rfl, k⟩)
theorem fnP_nrm {rs : List (Nat × Option (Option Nat))} {Q : Value → Vw → Prop} {l : List Value} (hr : Res A Z O rs l) (k : Q (tupled l) Z) : fnQ lo rs (fun v Z' O' => O' = [] ∧ Q v Z') .nrm A Z O := fn_nrm hr (Upd.nil ⟨rfl, k⟩)
theorem CallP_true {k : Nat} {Q : Value → Vw → Prop} (hF : F k = some fnTrue) (kk : Q (.bool true) Z) : CallP F lo k [] Z Q := Call_true hF ⟨rfl, kk⟩
end
end
end Go.Proofs.Ytlidnionbofkaaa.Hm.V
namespace Go.Proofs.Ytlidnionbofkaaa.Hm.V
noncomputable section
open Go Go.Proofs.Ytlidnionbofkaaa.Hm
set_option linter.all false
theorem toNat_pred (i : Nat) : ((i : Int) - 1).toNat = i - 1 := by omega
theorem toNat_succ (i : Nat) : ((i : Int) + 1).toNat = i + 1 := by omega
def cI (n : Int) : List Value := [.int .i64 n]
theorem getD_eq {α : Type} [Inhabited α] {l : List α} {k : Nat} (h : k < l.length) : l.getD k default = l[k] := by
  rw [List.getD_eq_getElem?_getD, List.getElem?_eq_getElem h]; rfl
theorem getD_at {α : Type} [Inhabited α] {l : List α} {k : Nat} (h : k < l.length) : l[k]? = some (l.getD k default) := by
  rw [getD_eq h, List.getElem?_eq_getElem h]
end
end Go.Proofs.Ytlidnionbofkaaa.Hm.V
namespace Go.Proofs.Ytlidnionbofkaaa.Hm.V
noncomputable section
open Go Go.Proofs.Ytlidnionbofkaaa.Hm
set_option linter.all false
set_option linter.unusedSectionVars false
class AtB (O : List Pt) (b : Nat) (cs : outParam (List Value)) (f : outParam (Pt → List Pt)) (g : outParam (List Pt)) : Prop where
  out : At O (.box b cs) f g
class AtA (O : List Pt) (v : Value) (e c : outParam Nat) (xs : outParam (List (List Value))) (f : outParam (Pt → List Pt)) (g : outParam (List Pt)) : Prop where
  out : At O (.arr v e c xs) f g
class AtG (O : List Pt) (v : Value) (e : outParam Nat) (xs : outParam (List (List Value))) (f : outParam (Pt → List Pt)) (g : outParam (List Pt)) : Prop where
  out : At O (.gro v e xs) f g
class AtM (O : List Pt) (v : Value) (es : outParam (List (Value × Value))) (f : outParam (Pt → List Pt)) (g : outParam (List Pt)) : Prop where
  out : At O (.map v es) f g
section
variable {S : List Pt} {f : Pt → List Pt} {g : List Pt} {x : Pt} {b e c : Nat} {v : Value} {cs : List Value} {xs : List (List Value)} {es : List (Value × Value)}
instance AtB.here : AtB (.box b cs :: S) b cs (fun x => x :: S) S := ⟨.here⟩
instance AtB.there [k : AtB S b cs f g] : AtB (x :: S) b cs (fun y => x :: f y) (x :: g) := ⟨.there k.out⟩
instance AtA.here : AtA (.arr v e c xs :: S) v e c xs (fun x => x :: S) S := ⟨.here⟩
instance AtA.there [k : AtA S v e c xs f g] : AtA (x :: S) v e c xs (fun y => x :: f y) (x :: g) := ⟨.there k.out⟩
instance AtG.here : AtG (.gro v e xs :: S) v e xs (fun x => x :: S) S := ⟨.here⟩
instance AtG.there [k : AtG S v e xs f g] : AtG (x :: S) v e xs (fun y => x :: f y) (x :: g) := ⟨.there k.out⟩
instance AtM.here : AtM (.map v es :: S) v es (fun x => x :: S) S := ⟨.here⟩
instance AtM.there [k : AtM S v es f g] : AtM (x :: S) v es (fun y => x :: f y) (x :: g) := ⟨.there k.out⟩
end
class TN (j : Int) (k : outParam Nat) : Prop where
  out : j.toNat = k
instance TN.cast {i : Nat} : TN (i : Int) i := ⟨Int.toNat_natCast i⟩
instance TN.pred {i : Nat} : TN ((i : Int) - 1) (i - 1) := ⟨toNat_pred i⟩
instance TN.succ {i : Nat} : TN ((i : Int) + 1) (i + 1) := ⟨toNat_succ i⟩
instance TN.div {i c : Nat} : TN ((i : Int) / (no_index (OfNat.ofNat c))) (i / (OfNat.ofNat c : Nat)) := ⟨by show ((i : Int) / (c : Int)).toNat = i / c; rw [← Int.natCast_ediv]; rfl⟩
instance TN.mod {i c : Nat} : TN ((i : Int) % (no_index (OfNat.ofNat c))) (i % (OfNat.ofNat c : Nat)) := ⟨by show ((i : Int) % (c : Int)).toNat = i % c; rw [← Int.natCast_emod]; rfl⟩
instance TN.lit {n : Nat} : TN (no_index (OfNat.ofNat n)) (OfNat.ofNat n : Nat) := ⟨rfl⟩
instance (priority := low) TN.any {j : Int} : TN j j.toNat := ⟨rfl⟩
class ZL (Z : Vw) (Z' : semiOutParam Vw) : Prop where
  le : Z.le Z'
class ZC (Z Z' : Vw) : Prop where
  le : Z.le Z'
instance ZC.refl {Z : Vw} : ZC Z Z := ⟨.refl _⟩
instance (priority := low) ZC.step {Z Z1 Z' : Vw} [a : ZL Z Z1] [b : ZC Z1 Z'] : ZC Z Z' := ⟨a.le.trans b.le⟩
class FzL (Z : Vw) (e : outParam Nat) (v : Value) (xs : outParam (List (List Value))) : Prop where
  out : Fz Z e v xs
instance FzL.mk' {Z Z0 : Vw} {v : Value} {e : Nat} {xs : List (List Value)} [k : Fz Z0 e v xs] [z : ZC Z0 Z] : FzL Z e v xs := ⟨k.le z.le⟩
class Se (Z : Vw) (O : List Pt) (v : Value) (e : outParam Nat) (xs : outParam (List (List Value))) : Prop where
  out : Sees Z O e v xs
section
variable {Z Z0 : Vw} {O : List Pt} {v : Value} {e c : Nat} {xs : List (List Value)} {f : Pt → List Pt} {g : List Pt}
instance Se.arr [k : AtA O v e c xs f g] : Se Z O v e xs := ⟨.arr k.out⟩
instance Se.gro [k : AtG O v e xs f g] : Se Z O v e xs := ⟨.gro k.out⟩
instance Se.fz [k : Fz Z0 e v xs] [z : ZC Z0 Z] : Se Z O v e xs := ⟨.fz (k.le z.le)⟩
end
class Ce (Z : Vw) (O : List Pt) (v : Value) (vs : outParam (List Value)) : Prop where
  out : Cel Z O v vs
section
variable {Z : Vw} {O : List Pt}
instance Ce.int {k : IntKind} {n : Int} : Ce Z O (.int k n) [.int k n] := ⟨.val rfl⟩
instance Ce.bool {b : Bool} : Ce Z O (.bool b) [.bool b] := ⟨.val rfl⟩
instance Ce.str {s : ByteArray} : Ce Z O (.string s) [.string s] := ⟨.val rfl⟩
instance Ce.ptr {a : Option Addr} : Ce Z O (.pointer a) [.pointer a] := ⟨.val rfl⟩
instance Ce.sl {a : Option Addr} {n c : Nat} : Ce Z O (.slice a n c) [.slice a n c] := ⟨.val rfl⟩
instance Ce.mp {b : Option Nat} : Ce Z O (.map b) [.map b] := ⟨.val rfl⟩
instance Ce.fn {f : Go.Fn} {a c : Array Value} : Ce Z O (.func f a c) [.func f a c] := ⟨.val rfl⟩
instance Ce.nilf : Ce Z O .nilFunc [.nilFunc] := ⟨.val rfl⟩
instance Ce.agg {cs : List Value} : Ce Z O (.agg ⟨cs⟩) cs := ⟨.val rfl⟩
instance (priority := low) Ce.se {v : Value} {e : Nat} {xs : List (List Value)} [k : Se Z O v e xs] : Ce Z O v [v] := ⟨.sees k.out⟩
instance (priority := low) Ce.map {v : Value} {es : List (Value × Value)} {f : Pt → List Pt} {g : List Pt} [k : AtM O v es f g] : Ce Z O v [v] := ⟨.map k.out⟩
end
class S0 (Z : Vw) (O : List Pt) (v : Value) : Prop where
  out : ∀ lo R h, Mem lo Z (O ++ R) h → same0 v v = true
class SL (Z : Vw) (O : List Pt) (l : List Value) : Prop where
  out : ∀ lo R h, Mem lo Z (O ++ R) h → sameL l l = true
class SV (Z : Vw) (O : List Pt) (v : Value) : Prop where
  out : ∀ lo R h, Mem lo Z (O ++ R) h → sameV v v = true
section
variable {Z : Vw} {O : List Pt}
instance S0.int {k : IntKind} {n : Int} : S0 Z O (.int k n) := ⟨fun _ _ _ _ => by simp [same0]⟩
instance S0.bool {b : Bool} : S0 Z O (.bool b) := ⟨fun _ _ _ _ => by simp [same0]⟩
instance S0.str {s : ByteArray} : S0 Z O (.string s) := ⟨fun _ _ _ _ => by simp [same0]⟩
instance S0.ptr {a : Option Addr} : S0 Z O (.pointer a) := ⟨fun _ _ _ _ => by simp [same0]⟩
instance S0.sl {a : Option Addr} {n c : Nat} : S0 Z O (.slice a n c) := ⟨fun _ _ _ _ => by simp [same0]⟩
instance S0.mp {a : Option Nat} : S0 Z O (.map a) := ⟨fun _ _ _ _ => by simp [same0]⟩
instance S0.fn0 {f : Nat} : S0 Z O (.func (.func f) ⟨[]⟩ ⟨[]⟩) := ⟨fun _ _ _ _ => by simp [same0, samePs]⟩
instance S0.fn1 {f : Nat} {a : Option Addr} : S0 Z O (.func (.func f) ⟨[]⟩ ⟨[.pointer a]⟩) := ⟨fun _ _ _ _ => by simp [same0, samePs]⟩
instance S0.fn2 {f : Nat} {a b : Option Addr} : S0 Z O (.func (.func f) ⟨[]⟩ ⟨[.pointer a, .pointer b]⟩) := ⟨fun _ _ _ _ => by simp [same0, samePs]⟩
instance (priority := low) S0.se {v : Value} {e : Nat} {xs : List (List Value)} [k : Se Z O v e xs] : S0 Z O v := ⟨fun lo R h m => by
  obtain ⟨a, c, rfl⟩ := k.out.slice m; simp [same0]⟩
instance SL.nil : SL Z O [] := ⟨fun _ _ _ _ => rfl⟩
instance SL.cons {v : Value} {l : List Value} [a : S0 Z O v] [b : SL Z O l] : SL Z O (v :: l) := ⟨fun lo R h m => by simp [sameL, a.out lo R h m, b.out lo R h m]⟩
instance SV.agg {l : List Value} [a : SL Z O l] : SV Z O (.agg ⟨l⟩) := ⟨fun lo R h m => a.out lo R h m⟩
instance (priority := low) SV.one {v : Value} [a : S0 Z O v] : SV Z O v := ⟨fun lo R h m => by
  have := a.out lo R h m
  cases v <;> first | exact this | cases this⟩
end
section
variable {F : Nat → Option HFn} {lo N : Nat} {A : Tab} {Z : Vw} {O : List Pt} {K : Value → Vw → List Pt → Prop} {Q : Tab → Vw → List Pt → Prop}
theorem rDo {ops : List HOper} {j : Nat} {js : List Nat} {op : HOp} {d : Nat} {v : Value} [s : SV Z O v] (ho : ops[j]? = some ⟨some d, op, none⟩) (hd : look A d = some v) (hr : Rds lo op N A Z O v) (k : Rck lo ops N A Z O js) : Rck lo ops N A Z O (j :: js) :=
  fun R σ h hs m => Rck_do ho hd hr (s.out lo R h m) k R σ h hs m
theorem rIf {ops : List HOper} {j : Nat} {js : List Nat} {op : HOp} {d t : Nat} {b : Bool} {v : Value} [s : SV Z O v] (ho : ops[j]? = some ⟨some d, op, some (t, b)⟩) (hl : look A t = some (.bool b)) (hd : look A d = some v) (hr : Rds lo op N A Z O v) (k : Rck lo ops N A Z O js) : Rck lo ops N A Z O (j :: js) :=
  fun R σ h hs m => Rck_if ho hl hd hr (s.out lo R h m) k R σ h hs m
variable {KP : KPan}
theorem RaG {d : Nat} {op : HOp} {os : List HOper} (hd : Nat.blt d N = true) (k : XG F lo op N A Z O (thenG (fun v Z1 O1 => R F lo os N ((d, v) :: A) Z1 O1 Q KP) (fun v Z1 O1 => KP v A Z1 O1))) : R F lo (⟨some d, op, none⟩ :: os) N A Z O Q KP := R_cons (S_doG hd k)
theorem RnG {op : HOp} {os : List HOper} (k : XG F lo op N A Z O (thenG (fun v Z1 O1 => R F lo os N A Z1 O1 Q KP) (fun v Z1 O1 => KP v A Z1 O1))) : R F lo (⟨none, op, none⟩ :: os) N A Z O Q KP := R_cons (S_dnG k)
theorem Ra {d : Nat} {op : HOp} {os : List HOper} (hd : Nat.blt d N = true) (k : X F lo op N A Z O (fun v Z1 O1 => R F lo os N ((d, v) :: A) Z1 O1 Q KP)) : R F lo (⟨some d, op, none⟩ :: os) N A Z O Q KP := R_cons (S_do hd k)
theorem Rn {op : HOp} {os : List HOper} (k : X F lo op N A Z O (fun v Z1 O1 => R F lo os N A Z1 O1 Q KP)) : R F lo (⟨none, op, none⟩ :: os) N A Z O Q KP := R_cons (S_dn k)
theorem Rb {d : Nat} {op : HOp} {t : Nat} {b : Bool} {os : List HOper} (hl : look A t = some (.bool b)) (hd : Nat.blt d N = true) (k : X F lo op N A Z O (fun v Z1 O1 => R F lo os N ((d, v) :: A) Z1 O1 Q KP)) : R F lo (⟨some d, op, some (t, b)⟩ :: os) N A Z O Q KP := R_cons (S_if hl hd k)
theorem Rc {d : Nat} {op : HOp} {t : Nat} {b : Bool} {os : List HOper} (hl : look A t = some (.bool (!b))) (hd : Nat.blt d N = true) (k : R F lo os N ((d, undef) :: A) Z O Q KP) : R F lo (⟨some d, op, some (t, b)⟩ :: os) N A Z O Q KP := R_cons (S_no hl hd k)
theorem Rd {d : Nat} {op : HOp} {t : Nat} {b : Bool} {os : List HOper} (hl : look A t = some undef) (hd : Nat.blt d N = true) (k : R F lo os N ((d, undef) :: A) Z O Q KP) : R F lo (⟨some d, op, some (t, b)⟩ :: os) N A Z O Q KP := R_cons (S_un hl hd k)
section
variable {ops : List HOper} {i : Nat} {rest : List (Nat × List Nat)}
theorem Da {d : Nat} {op : HOp} (ho : ops[i]? = some ⟨some d, op, none⟩) (hd : Nat.blt d N = true) (k : X F lo op N A Z O (fun v Z1 O1 => D F lo ops rest N ((d, v) :: A) Z1 O1 Q KP)) : D F lo ops ((i, []) :: rest) N A Z O Q KP :=
  D_consR ho (S_do hd (X.mono k fun v Z' O' _ q => ⟨Rck_nil, q⟩))
theorem Dn {op : HOp} (ho : ops[i]? = some ⟨none, op, none⟩) (k : X F lo op N A Z O (fun v Z1 O1 => D F lo ops rest N A Z1 O1 Q KP)) : D F lo ops ((i, []) :: rest) N A Z O Q KP :=
  D_consR ho (S_dn (X.mono k fun v Z' O' _ q => ⟨Rck_nil, q⟩))
theorem Db {d : Nat} {op : HOp} {t : Nat} {b : Bool} (ho : ops[i]? = some ⟨some d, op, some (t, b)⟩) (hl : look A t = some (.bool b)) (hd : Nat.blt d N = true) (k : X F lo op N A Z O (fun v Z1 O1 => D F lo ops rest N ((d, v) :: A) Z1 O1 Q KP)) : D F lo ops ((i, []) :: rest) N A Z O Q KP :=
  D_consR ho (S_if hl hd (X.mono k fun v Z' O' _ q => ⟨Rck_nil, q⟩))
theorem Dc {d : Nat} {op : HOp} {t : Nat} {b : Bool} (ho : ops[i]? = some ⟨some d, op, some (t, b)⟩) (hl : look A t = some (.bool (!b))) (hd : Nat.blt d N = true) (k : D F lo ops rest N ((d, undef) :: A) Z O Q KP) : D F lo ops ((i, []) :: rest) N A Z O Q KP := D_consR ho (S_no hl hd ⟨Rck_nil, k⟩)
theorem Dd {d : Nat} {op : HOp} {t : Nat} {b : Bool} (ho : ops[i]? = some ⟨some d, op, some (t, b)⟩) (hl : look A t = some undef) (hd : Nat.blt d N = true) (k : D F lo ops rest N ((d, undef) :: A) Z O Q KP) : D F lo ops ((i, []) :: rest) N A Z O Q KP := D_consR ho (S_un hl hd ⟨Rck_nil, k⟩)
end
section
variable {b o e k0 n : Nat} {v w : Value} {cs x : List Value} {xs : List (List Value)} {f : Pt → List Pt} {g : List Pt} {a y i : Operand}
variable {α : Type} [Inhabited α] {fe : α → List Value} {l : List α}
theorem lB [k : AtB O b cs f g] (ha : evA A a = some (.pointer (some ⟨b, o, none⟩))) (hw : cs[o]? = some w) : Rds lo (.load none a) N A Z O w := L_box ha k.out hw
theorem lBA [k : AtB O b cs f g] (ha : evA A a = some (.pointer (some ⟨b, 0, none⟩))) (hn : Nat.beq cs.length n = true) : Rds lo (.load (some n) a) N A Z O (.agg ⟨cs⟩) := L_boxA ha k.out (Nat.eq_of_beq_eq_true hn)
theorem lBP [k : AtB O b cs f g] (ha : evA A a = some (.pointer (some ⟨b, o, none⟩))) (hn : Nat.ble (o + n) cs.length = true) : Rds lo (.load (some n) a) N A Z O (.agg ⟨(cs.drop o).take n⟩) := L_boxP ha k.out (Nat.le_of_ble_eq_true hn)
theorem lE [k : Se Z O v e (l.map fe)] (ha : evA A a = some (.pointer (some ⟨bb v, oo v + k0 * e + o, none⟩))) (hk : k0 < l.length) (hw : (fe (l.getD k0 default))[o]? = some w) : Rds lo (.load none a) N A Z O w := L_el ha k.out (map_at hk) hw
theorem lE0 [k : Se Z O v e (l.map fe)] (ha : evA A a = some (.pointer (some ⟨bb v, oo v + k0 * e, none⟩))) (hk : k0 < l.length) (hw : (fe (l.getD k0 default))[0]? = some w) : Rds lo (.load none a) N A Z O w := L_el0 ha k.out (map_at hk) hw
theorem lEA [k : Se Z O v e (l.map fe)] (ha : evA A a = some (.pointer (some ⟨bb v, oo v + k0 * e, none⟩))) (hk : k0 < l.length) : Rds lo (.load (some e) a) N A Z O (.agg ⟨fe (l.getD k0 default)⟩) := L_elA ha k.out (map_at hk)
theorem lEP [k : Se Z O v e (l.map fe)] (ha : evA A a = some (.pointer (some ⟨bb v, oo v + k0 * e + o, none⟩))) (hk : k0 < l.length) (hn : Nat.ble (o + n) e = true) : Rds lo (.load (some n) a) N A Z O (.agg ⟨((fe (l.getD k0 default)).drop o).take n⟩) := L_elP ha k.out (map_at hk) hn
theorem lX [k : Se Z O v e xs] (ha : evA A a = some (.pointer (some ⟨bb v, oo v + k0 * e + o, none⟩))) (hx : xs[k0]? = some x) (hw : x[o]? = some w) : Rds lo (.load none a) N A Z O w := L_el ha k.out hx hw
theorem lX0 [k : Se Z O v e xs] (ha : evA A a = some (.pointer (some ⟨bb v, oo v + k0 * e, none⟩))) (hx : xs[k0]? = some x) (hw : x[0]? = some w) : Rds lo (.load none a) N A Z O w := L_el0 ha k.out hx hw
theorem lXA [k : Se Z O v e xs] (ha : evA A a = some (.pointer (some ⟨bb v, oo v + k0 * e, none⟩))) (hx : xs[k0]? = some x) : Rds lo (.load (some e) a) N A Z O (.agg ⟨x⟩) := L_elA ha k.out hx
theorem xLen [s : Se Z O v e (l.map fe)] (hx : evA A a = some v) (k : K (.int .i64 l.length) Z O) : X F lo (.len a) N A Z O K := X_len hx s.out (List.length_map _) k
theorem xLenX [s : Se Z O v e xs] (hx : evA A a = some v) (k : K (.int .i64 xs.length) Z O) : X F lo (.len a) N A Z O K := X_len hx s.out rfl k
theorem xIa {esz : Nat} {k' : IntKind} {j : Int} [s : Se Z O v e (l.map fe)] [hk : TN j k0] (hx : evA A a = some v) (hi : evA A i = some (.int k' j)) (h0 : 0 ≤ j) (h1 : k0 < l.length) (k : K (.pointer (some ⟨bb v, oo v + k0 * esz, none⟩)) Z O) : X F lo (.iaddr esz a i) N A Z O K :=
  X_iaddr hx hi s.out h0 hk.out (by rw [List.length_map]; exact h1) k
theorem xIaX {esz : Nat} {k' : IntKind} {j : Int} [s : Se Z O v e xs] [hk : TN j k0] (hx : evA A a = some v) (hi : evA A i = some (.int k' j)) (h0 : 0 ≤ j) (h1 : k0 < xs.length) (k : K (.pointer (some ⟨bb v, oo v + k0 * esz, none⟩)) Z O) : X F lo (.iaddr esz a i) N A Z O K :=
  X_iaddr hx hi s.out h0 hk.out h1 k
theorem xBox {vs : List Value} [c : Ce Z O v vs] (hx : evA A a = some v) (k : ∀ b, K (.pointer (some ⟨b, 0, none⟩)) Z (.box b vs :: O)) : X F lo (.box a) N A Z O K := X_boxC hx c.out k
theorem xSB {vs cs' : List Value} [c : Ce Z O v vs] [t : AtB O b cs f g] (ha : evA A a = some (.pointer (some ⟨b, o, none⟩))) (hx : evA A y = some v) (hn : Nat.beq vs.length n = true) (ho : Nat.ble (o + n) cs.length = true)
    (hcs : cs.take o ++ (vs ++ cs.drop (o + n)) = cs') (k : K undef Z (f (.box b cs'))) : X F lo (.store n a y) N A Z O K := X_storeBC ha hx c.out hn t.out ho hcs k
theorem xSW {vs : List Value} [c : Ce Z O v vs] [t : AtB O b cs f g] (ha : evA A a = some (.pointer (some ⟨b, 0, none⟩))) (hx : evA A y = some v) (hn : Nat.beq vs.length n = true) (hl : Nat.beq cs.length n = true) (k : K undef Z (f (.box b vs))) : X F lo (.store n a y) N A Z O K :=
  X_storeBC ha hx c.out hn t.out (by rw [Nat.eq_of_beq_eq_true hl, Nat.zero_add]; exact Nat.ble_eq_true_of_le (Nat.le_refl _)) (by rw [List.take_zero, List.nil_append, Nat.zero_add, List.drop_of_length_le (by rw [Nat.eq_of_beq_eq_true hl]; exact Nat.le_refl _), List.append_nil]) k
theorem xSA {cp : Nat} {vs : List Value} [c : Ce Z O w vs] [t : AtA O v e cp (l.map fe) f g] (ha : evA A a = some (.pointer (some ⟨bb v, oo v + k0 * e, none⟩))) (hy : evA A y = some w) (hn : Nat.beq vs.length n = true) (hk : k0 < l.length) (ho : Nat.beq n e = true)
    (k : K undef Z (f (.arr v e cp ((l.map fe).set k0 vs)))) : X F lo (.store n a y) N A Z O K := X_storeArr0C ha hy c.out hn t.out (map_at hk) ho k
theorem xSAX {cp : Nat} {vs : List Value} [c : Ce Z O w vs] [t : AtA O v e cp xs f g] (ha : evA A a = some (.pointer (some ⟨bb v, oo v + k0 * e, none⟩))) (hy : evA A y = some w) (hn : Nat.beq vs.length n = true) (hx : xs[k0]? = some x) (ho : Nat.beq n e = true)
    (k : K undef Z (f (.arr v e cp (xs.set k0 vs)))) : X F lo (.store n a y) N A Z O K := X_storeArr0C ha hy c.out hn t.out hx ho k
theorem xSG {vs : List Value} [c : Ce Z O w vs] [t : AtG O v e (l.map fe) f g] (ha : evA A a = some (.pointer (some ⟨bb v, oo v + k0 * e, none⟩))) (hy : evA A y = some w) (hn : Nat.beq vs.length n = true) (hk : k0 < l.length) (ho : Nat.beq n e = true)
    (k : K undef Z (f (.gro v e ((l.map fe).set k0 vs)))) : X F lo (.store n a y) N A Z O K := X_storeGro0C ha hy c.out hn t.out (map_at hk) ho k
end
theorem pCons {o s : Nat} {x : Operand} {v : Value} {vs : List Value} {ps : List (Nat × Nat × Operand)} {r : List (Nat × Nat × List Value)} [c : Ce Z O v vs] (hx : evA A x = some v) (k : Parts A Z O ps r) : Parts A Z O ((o, s, x) :: ps) ((o, s, vs) :: r) := .cons hx c.out k
theorem xP {args : List Operand} {k : Nat} {vs : List Value} {P : Value → Vw → Prop} (hc : CallP F lo k vs Z P) (ha : evsA A args = some vs) (kk : ∀ v Z', ZL Z Z' → P v Z' → K v Z' O) : X F lo (.call (.func k) args) N A Z O K :=
  X_callP ha hc fun v Z' hz hq => kk v Z' ⟨hz⟩ hq
def Call1 (F : Nat → Option HFn) (lo k : Nat) (vs : List Value) (Z : Vw) (o : Pt) (Q : Value → Vw → Pt → Prop) : Prop := Call F lo k vs Z [o] fun v Z' O' => ∃ o', O' = [o'] ∧ Q v Z' o'
theorem x1 {args : List Operand} {k : Nat} {vs : List Value} {o : Pt} {f : Pt → List Pt} {g : List Pt} {P : Value → Vw → Pt → Prop} (hc : Call1 F lo k vs Z o P) (ha : evsA A args = some vs) (hat : At O o f g) (kk : ∀ v Z' o', ZL Z Z' → P v Z' o' → K v Z' (o' :: g)) : X F lo (.call (.func k) args) N A Z O K :=
  X_call1 ha hat (Call.mono hc fun v Z' O' hz hq => by
    obtain ⟨o', rfl, hq⟩ := hq
    exact kk v Z' o' ⟨hz⟩ hq)
theorem x1B {args : List Operand} {k b : Nat} {cs : List Value} {vs : List Value} {f : Pt → List Pt} {g : List Pt} {P : Value → Vw → Pt → Prop} [t : AtB O b cs f g] (hc : Call1 F lo k vs Z (.box b cs) P) (ha : evsA A args = some vs) (kk : ∀ v Z' o', ZL Z Z' → P v Z' o' → K v Z' (o' :: g)) : X F lo (.call (.func k) args) N A Z O K := x1 hc ha t.out kk
theorem Fn1 {k : Nat} {fn : HFn} {vs : List Value} {o : Pt} {Q : Value → Vw → Pt → Prop} (hF : F k = some fn) (hp : (fn.prim.isNone && fn.sem.isNone) = true) (hl : Nat.ble vs.length fn.ntmps = true) (hb : W F lo fn.body fn.ntmps (argsA 0 vs) Z [o] (fnQ lo fn.res fun v Z' O' => ∃ o', O' = [o'] ∧ Q v Z' o')) : Call1 F lo k vs Z o Q := Fn hF hp hl hb
theorem fn1_ret {rs : List (Nat × Option (Option Nat))} {o' : Pt} {Q : Value → Vw → Pt → Prop} {l : List Value} (hr : Res A Z O rs l) (hh : Has O [o']) (k : Q (tupled l) Z o') : fnQ lo rs (fun v Z' O' => ∃ o', O' = [o'] ∧ Q v Z' o') .ret A Z O := fn_ret hr (Upd.has hh ⟨o', rfl, k⟩)
theorem fn1_nrm {rs : List (Nat × Option (Option Nat))} {o' : Pt} {Q : Value → Vw → Pt → Prop} {l : List Value} (hr : Res A Z O rs l) (hh : Has O [o']) (k : Q (tupled l) Z o') : fnQ lo rs (fun v Z' O' => ∃ o', O' = [o'] ∧ Q v Z' o') .nrm A Z O := fn_nrm hr (Upd.has hh ⟨o', rfl, k⟩)
theorem wLoop {ι : Type} {c : HC} {Q : Out → Tab → Vw → List Pt → Prop} (T : ι → Tab) (L : ι → List Pt) (P : ι → Vw → Prop) (μ : ι → Nat) (i0 : ι) (hT : SubT (T i0) A) (h0 : Upd lo Z O fun Z' O' => P i0 Z' ∧ Has O' (L i0))
    (round : ∀ i Z', ZL Z Z' → P i Z' → W F lo c N (T i ++ keepT (wrote c) A) Z' (L i) (thenQ (fun A1 Z1 O1 => Upd lo Z1 O1 fun Z2 O2 => ∃ j, μ j < μ i ∧ P j Z2 ∧ SubT (T j) A1 ∧ Has O2 (L j)) Q)) : W F lo (.loop c) N A Z O Q :=
  W_loop T L P μ i0 hT h0 fun i Z' hz hp => round i Z' ⟨hz⟩ hp
theorem hB {O g L : List Pt} {f : Pt → List Pt} {b : Nat} {cs cs' : List Value} [t : AtB O b cs f g] (hc : cs = cs') (k : Has g L) : Has O (.box b cs' :: L) := .box t.out hc k
theorem hR {O g L : List Pt} {f : Pt → List Pt} {v : Value} {e c : Nat} {xs xs' : List (List Value)} [t : AtA O v e c xs f g] (hc : xs = xs') (k : Has g L) : Has O (.arr v e c xs' :: L) := .arr t.out hc k
theorem hM {O g L : List Pt} {f : Pt → List Pt} {v : Value} {es es' : List (Value × Value)} [t : AtM O v es f g] (hc : es = es') (k : Has g L) : Has O (.map v es' :: L) := .map t.out hc k
theorem uA {e c : Nat} {xs : List (List Value)} {f : Pt → List Pt} {g : List Pt} {K : Vw → List Pt → Prop} (v : Value) [t : AtA O v e c xs f g] (k : ∀ Z', ZL Z Z' → Fz Z' e v xs → Upd lo Z' g K) : Upd lo Z O K := Upd.arr t.out fun Z' hz hf => k Z' ⟨hz⟩ hf
theorem rC {t b o : Nat} {rs : List (Nat × Option (Option Nat))} {v : Value} {l cs : List Value} {f : Pt → List Pt} {g : List Pt} [k : AtB O b cs f g] (hl : look A t = some (.pointer (some ⟨b, o, none⟩))) (hv : cs[o]? = some v) (kk : Res A Z O rs l) : Res A Z O ((t, some none) :: rs) (v :: l) := .cell hl k.out hv kk
theorem rA {t b n : Nat} {rs : List (Nat × Option (Option Nat))} {l cs : List Value} {f : Pt → List Pt} {g : List Pt} [k : AtB O b cs f g] (hl : look A t = some (.pointer (some ⟨b, 0, none⟩))) (hn : Nat.beq cs.length n = true) (kk : Res A Z O rs l) : Res A Z O ((t, some (some n)) :: rs) (.agg ⟨cs⟩ :: l) := .agg hl k.out (Nat.eq_of_beq_eq_true hn) kk
end
end
end Go.Proofs.Ytlidnionbofkaaa.Hm.V
namespace Go.Proofs.Ytlidnionbofkaaa.Hm.V
noncomputable section
open Go Go.Proofs.Ytlidnionbofkaaa.Hm
set_option linter.all false
class NI (a : Int) (x : outParam Nat) : Prop where
  out : a = (x : Int)
instance NI.cast {x : Nat} : NI (x : Int) x := ⟨rfl⟩
instance NI.lit {n : Nat} : NI (no_index (OfNat.ofNat n)) (OfNat.ofNat n : Nat) := ⟨rfl⟩
instance NI.zero : NI 0 0 := ⟨rfl⟩
instance NI.one : NI 1 1 := ⟨rfl⟩
theorem wrap_u64 {n : Int} (h1 : 0 ≤ n) (h2 : n < 18446744073709551616) : IntKind.u64.wrap n = n := by
  unfold IntKind.wrap
  simp [IntKind.bits, IntKind.signed]
  omega
def wd (m i : Nat) : Nat := m / 2 ^ (64 * i) % 2 ^ 64
theorem wd_lt (m i : Nat) : wd m i < 2 ^ 64 := Nat.mod_lt _ (by decide)
class BU (a : Nat) : Prop where
  out : a < 2 ^ 64
instance BU.wd {m i : Nat} : BU (V.wd m i) := ⟨wd_lt m i⟩
instance BU.shr {a s : Nat} [k : BU a] : BU (a >>> s) := ⟨Nat.lt_of_le_of_lt (by rw [Nat.shiftRight_eq_div_pow]; exact Nat.div_le_self _ _) k.out⟩
instance BU.and {a b : Nat} [k : BU a] : BU (a &&& b) := ⟨Nat.lt_of_le_of_lt Nat.and_le_left k.out⟩
instance BU.or {a b : Nat} [k : BU a] [k' : BU b] : BU (a ||| b) := ⟨Nat.or_lt_two_pow k.out k'.out⟩
instance BU.mod {a : Nat} : BU (a % 2 ^ 64) := ⟨Nat.mod_lt _ (by decide)⟩
instance BU.zero : BU 0 := ⟨by decide⟩
instance BU.one : BU 1 := ⟨by decide⟩
section
variable {F : Nat → Option HFn} {lo N : Nat} {A : Tab} {Z : Vw} {O : List Pt} {K : Value → Vw → List Pt → Prop} {x y : Operand}
theorem X_quoI {a c : Int} (hx : evA A x = some (.int .i64 a)) (hy : evA A y = some (.int .i64 c)) (h0 : 0 ≤ a) (h1 : a < 9223372036854775808) (hc : 0 < c) (k : K (.int .i64 (a / c)) Z O) : X F lo (.bin .quo x y) N A Z O K :=
  X_bin hx hy (v := .int .i64 (a / c)) (by
    have hc0 : c ≠ 0 := by omega
    have h2 : a.tdiv c = a / c := Int.tdiv_eq_ediv_of_nonneg h0
    have h3 : a / c ≤ a := Int.ediv_le_self _ h0
    have h4 : 0 ≤ a / c := Int.ediv_nonneg h0 (by omega)
    have : bin .quo (.int .i64 a) (.int .i64 c) = pureRun (Op.intDiv .quo .i64 a c) := by simp only [bin, ne_eq, not_true_eq_false, if_false]
    rw [this]
    simp only [Op.intDiv, hc0, if_false, h2]
    rw [wrap_i64 (by omega) (by omega)]; rfl) k
theorem X_remI {a c : Int} (hx : evA A x = some (.int .i64 a)) (hy : evA A y = some (.int .i64 c)) (h0 : 0 ≤ a) (hc : 0 < c) (k : K (.int .i64 (a % c)) Z O) : X F lo (.bin .rem x y) N A Z O K :=
  X_bin hx hy (v := .int .i64 (a % c)) (by
    have hc0 : c ≠ 0 := by omega
    have h2 : a.tmod c = a % c := Int.tmod_eq_emod_of_nonneg h0
    have : bin .rem (.int .i64 a) (.int .i64 c) = pureRun (Op.intDiv .rem .i64 a c) := by simp only [bin, ne_eq, not_true_eq_false, if_false]
    rw [this]
    simp only [Op.intDiv, hc0, if_false, h2]; rfl) k
theorem X_convU {k' : IntKind} {n : Int} (hx : evA A x = some (.int k' n)) (h0 : 0 ≤ n) (h1 : n < 18446744073709551616) (k : K (.int .u64 n) Z O) : X F lo (.convI .u64 x) N A Z O K := X_conv hx (by rw [wrap_u64 h0 h1]; exact k)
theorem X_convS {k' : IntKind} {n : Int} (hx : evA A x = some (.int k' n)) (h0 : -9223372036854775808 ≤ n) (h1 : n < 9223372036854775808) (k : K (.int .i64 n) Z O) : X F lo (.convI .i64 x) N A Z O K := X_conv hx (by rw [wrap_i64 h0 h1]; exact k)
end
def cW (m i : Nat) : Value := .int .u64 ((wd m i : Nat) : Int)
def cS (m : Nat) : List Value := [cW m 0, cW m 1, cW m 2, cW m 3]
theorem wd_bit (m i k : Nat) : (wd m i).testBit k = (decide (k < 64) && m.testBit (64 * i + k)) := by
  unfold wd
  rw [Nat.testBit_mod_two_pow, Nat.testBit_div_two_pow]
  congr 2; omega
theorem cS_at {m j : Nat} (h : j < 4) : (cS m)[j]? = some (cW m j) := by
  match j, h with
  | 0, _ => rfl
  | 1, _ => rfl
  | 2, _ => rfl
  | 3, _ => rfl
theorem cS_at0 {m j : Nat} (h : j < 4) : (cS m)[0 + j * 1]? = some (cW m j) := by rw [Nat.zero_add, Nat.mul_one]; exact cS_at h
theorem cS_at1 {m j : Nat} (h : j < 4) : (cS m)[j * 1]? = some (cW m j) := by rw [Nat.mul_one]; exact cS_at h
instance SL.set {Z : Vw} {O : List Pt} {m : Nat} : SL Z O (cS m) := ⟨fun _ _ _ _ => by simp [cS, cW, sameL, same0]⟩
theorem wd_or {m m' i : Nat} : wd (m ||| m') i = wd m i ||| wd m' i := by
  apply Nat.eq_of_testBit_eq
  intro k
  simp only [Nat.testBit_or, wd_bit]
  cases decide (k < 64) <;> simp
theorem wd_one {n i : Nat} : wd (1 <<< n) i = if i = n / 64 then 1 <<< (n % 64) % 2 ^ 64 else 0 := by
  apply Nat.eq_of_testBit_eq
  intro k
  rw [wd_bit, Nat.one_shiftLeft, Nat.testBit_two_pow]
  split
  · rename_i e
    rw [Nat.testBit_mod_two_pow, Nat.one_shiftLeft, Nat.testBit_two_pow]
    by_cases hk : k < 64
    · simp only [hk, decide_true, Bool.true_and]
      congr 1
      apply propext
      omega
    · simp [hk]
  · rename_i e
    rw [Nat.zero_testBit]
    by_cases hk : k < 64
    · simp only [hk, decide_true, Bool.true_and, decide_eq_false_iff_not]
      omega
    · simp [hk]
theorem cW_put (m n i : Nat) : cW (m ||| 1 <<< n) i = if i = n / 64 then .int .u64 ((wd m i ||| 1 <<< (n % 64) % 2 ^ 64 : Nat) : Int) else cW m i := by
  unfold cW
  rw [wd_or, wd_one]
  split
  · rfl
  · rw [Nat.or_zero]
theorem cS_put {m n : Nat} (h : n < 256) : (cS m).take (n / 64) ++ ([.int .u64 ((wd m (n / 64) ||| 1 <<< (n % 64) % 2 ^ 64 : Nat) : Int)] ++ (cS m).drop (n / 64 + 1)) = cS (m ||| 1 <<< n) := by
  have hq : n / 64 < 4 := by omega
  have e : ∀ i, cW (m ||| 1 <<< n) i = if i = n / 64 then .int .u64 ((wd m i ||| 1 <<< (n % 64) % 2 ^ 64 : Nat) : Int) else cW m i := cW_put m n
  unfold cS
  rw [e 0, e 1, e 2, e 3]
  rcases (by omega : n / 64 = 0 ∨ n / 64 = 1 ∨ n / 64 = 2 ∨ n / 64 = 3) with hh | hh | hh | hh <;> rw [hh] <;> simp
section
variable {F : Nat → Option HFn} {lo N : Nat} {A : Tab} {Z : Vw} {O : List Pt} {K : Value → Vw → List Pt → Prop} {a y : Operand}
theorem xSset {m n b : Nat} {f : Pt → List Pt} {g : List Pt} [t : AtB O b (cS m) f g] (ha : evA A a = some (.pointer (some ⟨b, 0 + n / 64 * 1, none⟩))) (hx : evA A y = some (.int .u64 ((wd m (n / 64) ||| 1 <<< (n % 64) % 2 ^ 64 : Nat) : Int))) (hn : n < 256) (k : K undef Z (f (.box b (cS (m ||| 1 <<< n))))) : X F lo (.store 1 a y) N A Z O K := by
  rw [Nat.zero_add, Nat.mul_one] at ha
  exact X_storeB ha hx rfl rfl t.out (Nat.ble_eq_true_of_le (by show n / 64 + 1 ≤ 4; omega)) (cS_put hn) k
theorem xSsetA {n c k0 : Nat} {v : Value} {l : List Nat} {f : Pt → List Pt} {g : List Pt} [t : AtA O v 4 c (l.map cS) f g] (ha : evA A a = some (.pointer (some ⟨bb v, oo v + k0 * 4 + n / 64 * 1, none⟩))) (hx : evA A y = some (.int .u64 ((wd (l.getD k0 default) (n / 64) ||| 1 <<< (n % 64) % 2 ^ 64 : Nat) : Int))) (hk : k0 < l.length) (hn : n < 256)
    (k : K undef Z (f (.arr v 4 c ((l.set k0 (l.getD k0 default ||| 1 <<< n)).map cS)))) : X F lo (.store 1 a y) N A Z O K := by
  rw [Nat.mul_one] at ha
  refine X_storeArr ha hx rfl rfl t.out (map_at hk) (Nat.ble_eq_true_of_le (by omega)) ?_
  rw [cS_put hn, ← List.map_set]
  exact k
end
end
end Go.Proofs.Ytlidnionbofkaaa.Hm.V
namespace Go.Proofs.Ytlidnionbofkaaa.Hm.V
noncomputable section
open Go Go.Proofs.Ytlidnionbofkaaa.Hm
set_option linter.all false
def viewOf (h : Heap) : Vw := fun b => match h.get b with
  | some (.row cs none) => some (.row cs)
  | _ => none
theorem viewOf_row {h : Heap} {b : Nat} {cs : List Value} (e : h.get b = some (.row cs none)) : viewOf h b = some (.row cs) := by unfold viewOf; rw [e]
theorem cl_m0 {h : Heap} (hm : h.m = 0) (c : Nat) : h.cl c = none := by unfold Heap.cl; rw [hm]; simp
theorem mem_view {h : Heap} (hp : ∀ b x, h.get b = some x → ∃ cs, x = .row cs none) (hm : h.m = 0) : Mem h.n (viewOf h) [] h where
  own := fun o ho => absurd ho (by simp)
  nd := List.nodup_nil
  z := fun b x e => by
    unfold viewOf at e
    split at e
    · rename_i cs hg
      cases e
      exact ⟨cells_row hg, by simp [blks], fun cs' c e' => by rw [hg] at e'; cases e'⟩
    · cases e
  w1 := fun c t fl e => by rw [cl_m0 hm] at e; cases e
  w2 := fun b cs c e => by obtain ⟨cs', h1⟩ := hp b _ e; cases h1
  lon := Nat.le_refl _
theorem map_ofP {α : Type} {f : α → List Value} {p : α → Prop} : ∀ {xs : List (List Value)}, (∀ x ∈ xs, ∃ a, x = f a ∧ p a) → ∃ l : List α, xs = l.map f ∧ ∀ a ∈ l, p a
  | [], _ => ⟨[], rfl, fun a h => absurd h (by simp)⟩
  | x :: xs, h => by
    obtain ⟨a, ha, hp⟩ := h x (by simp)
    obtain ⟨l, hl, hq⟩ := map_ofP (xs := xs) fun y hy => h y (by simp [hy])
    refine ⟨a :: l, by rw [ha, hl]; rfl, fun b hb => ?_⟩
    rcases List.mem_cons.1 hb with rfl | hb
    · exact hp
    · exact hq b hb
def Wt {D : Type} (P : Program) (t : TypeId) (d : DataW D) : Prop := ∀ n ∈ d.weights P t, n ≤ reachBytes
theorem weightsAll_get {D : Type} {P : Program} {e : TypeId} {d : DataW D} : ∀ {ds : List (DataW D)} {i : Nat}, ds[i]? = some d → (∀ n ∈ DataW.weightsAll P e ds, n ≤ reachBytes) → Wt P e d
  | x :: ds, 0, h, hw => by
    simp only [List.getElem?_cons_zero, Option.some.injEq] at h
    subst h
    exact fun n hn => hw n (by rw [DataW.weightsAll]; exact List.mem_append_left _ hn)
  | x :: ds, i + 1, h, hw => weightsAll_get (ds := ds) (i := i) (by simpa using h) fun n hn => hw n (by rw [DataW.weightsAll]; exact List.mem_append_right _ hn)
theorem weightsAll_app {D : Type} {P : Program} {e : TypeId} : ∀ {xs bs : List (DataW D)}, DataW.weightsAll P e (xs ++ bs) = DataW.weightsAll P e xs ++ DataW.weightsAll P e bs
  | [], bs => by simp [DataW.weightsAll]
  | a :: xs, bs => by rw [List.cons_append, DataW.weightsAll, weightsAll_app, DataW.weightsAll, List.append_assoc]
theorem wt_slice {D : Type} {P : Program} {t e : TypeId} {es rest : List (DataW D)} (hu : P.underlying t = some (.slice e)) (hw : Wt P t (.slice es rest)) : (es.length + rest.length) * P.bytesOf e ≤ reachBytes ∧ ∀ n ∈ DataW.weightsAll P e (es ++ rest), n ≤ reachBytes := by
  unfold Wt at hw
  rw [DataW.weights, hu] at hw
  exact ⟨hw _ (by simp), fun n hn => hw n (by rw [weightsAll_app] at hn; exact List.mem_cons_of_mem _ hn)⟩
section
variable {D : Type} {P : Program} {h : Heap} {t : TypeId} {d : DataW D} {v : Value} {cs : List Value}
theorem TR_int {k : IntKind} (kk : TR P h t cs d) (hu : P.underlying t = some (.int k)) : ∃ n, cs = [.int k n] ∧ (Lit.int k n).wf = true := by
  cases kk with
  | int _ k' n hu' hw => rw [hu] at hu'; cases hu'; exact ⟨n, rfl, hw⟩
  | bool _ b hu' => rw [hu] at hu'; cases hu'
  | str _ s hu' => rw [hu] at hu'; cases hu'
  | nils _ e hu' => rw [hu] at hu'; cases hu'
  | slice _ e b len cap es rest cf df hu' => rw [hu] at hu'; cases hu'
  | struct _ fs cs ds df hu' => rw [hu] at hu'; cases hu'
  | array _ e n cs ds df hu' => rw [hu] at hu'; cases hu'
theorem TR_str (kk : TR P h t cs d) (hu : P.underlying t = some .string) : ∃ s : ByteArray, cs = [.string s] ∧ s.size ≤ maxLen := by
  cases kk with
  | str _ s hu' hs => exact ⟨s, rfl, hs⟩
  | bool _ b hu' => rw [hu] at hu'; cases hu'
  | int _ k' n hu' => rw [hu] at hu'; cases hu'
  | nils _ e hu' => rw [hu] at hu'; cases hu'
  | slice _ e b len cap es rest cf df hu' => rw [hu] at hu'; cases hu'
  | struct _ fs cs ds df hu' => rw [hu] at hu'; cases hu'
  | array _ e n cs ds df hu' => rw [hu] at hu'; cases hu'
theorem TR_struct {fs : Array Field} (kk : TR P h t cs d) (hu : P.underlying t = some (.struct fs)) : cs.length = P.cellsOf t ∧ ∀ (i : Nat) (f : Field), fs[i]? = some f → ∃ d' : DataW D, TR P h f.type ((cs.drop f.offset).take (P.cellsOf f.type)) d' := by
  cases kk with
  | struct _ fs cs ds df hu' hl hn hf hd => rw [hu] at hu'; cases hu'; exact ⟨hl, fun i f e => ⟨df i, hf i f e⟩⟩
  | bool _ b hu' => rw [hu] at hu'; cases hu'
  | str _ s hu' => rw [hu] at hu'; cases hu'
  | int _ k' n hu' => rw [hu] at hu'; cases hu'
  | nils _ e hu' => rw [hu] at hu'; cases hu'
  | slice _ e b len cap es rest cf df hu' => rw [hu] at hu'; cases hu'
  | array _ e n cs ds df hu' => rw [hu] at hu'; cases hu'
theorem TR_sliceW {e : TypeId} (kk : TR P h t cs d) (hu : P.underlying t = some (.slice e)) : ∃ (v : Value) (xs : List (List Value)), cs = [v] ∧ Fz (viewOf h) (P.cellsOf e) v xs ∧ xs.length ≤ maxLen ∧ (∀ x ∈ xs, ∃ d' : DataW D, TR P h e x d' ∧ (Wt P t d → Wt P e d')) ∧ (Wt P t d → xs.length * P.bytesOf e ≤ reachBytes) := by
  cases kk with
  | nils _ e hu' => exact ⟨_, [], rfl, Fz.nil _ _, Nat.zero_le _, fun x hx => absurd hx (by simp), fun _ => by simp⟩
  | slice _ e b len cap es rest cf df hu' he h1 h2 h3 hb hr ht hd =>
    rw [hu] at hu'; cases hu'
    obtain ⟨cs, hg⟩ := hb
    have hc := cells_row hg
    have hrd : ∀ i, i < cap → i * P.cellsOf e + P.cellsOf e ≤ cs.length ∧ (cs.drop (i * P.cellsOf e)).take (P.cellsOf e) = cf i := fun i hi => by
      have := hr i hi
      unfold Heap.rd at this
      rw [hc] at this
      simp only at this
      split at this
      · exact ⟨by assumption, Option.some.inj this⟩
      · cases this
    have key : ∀ m, m ≤ cap → m * P.cellsOf e ≤ cs.length ∧ cs.take (m * P.cellsOf e) = ((List.range m).map cf).flatten := by
      intro m
      induction m with
      | zero => intro _; simp
      | succ m ih =>
        intro hm
        obtain ⟨i1, i2⟩ := ih (by omega)
        obtain ⟨q1, q2⟩ := hrd m (by omega)
        rw [Nat.succ_mul]
        refine ⟨q1, ?_⟩
        rw [List.take_add, i2, q2, List.range_succ, List.map_append, List.flatten_append]
        simp
    have hlc : len ≤ cap := by omega
    obtain ⟨k1, k2⟩ := key len hlc
    refine ⟨_, (List.range len).map cf, rfl, ⟨fun x hx => ?_, .inr ⟨b, 0, none, cap, cs, by simp, by simpa using hlc, .inl rfl, viewOf_row hg, by simpa using k1, by simpa using k2⟩⟩, by simp; omega, fun x hx => ?_, fun hw => ?_⟩
    · obtain ⟨i, hi, rfl⟩ := List.mem_map.1 hx
      have hi : i < cap := by have := List.mem_range.1 hi; omega
      obtain ⟨q1, q2⟩ := hrd i hi
      rw [← q2, List.length_take, List.length_drop]; omega
    · obtain ⟨i, hi, rfl⟩ := List.mem_map.1 hx
      have hi : i < cap := by have := List.mem_range.1 hi; omega
      exact ⟨df i, ht i hi, fun hw => weightsAll_get (hd i hi) fun n hn => (wt_slice hu hw).2 n hn⟩
    · have h5 := (wt_slice hu hw).1
      rw [List.length_map, List.length_range]
      refine Nat.le_trans (Nat.mul_le_mul_right _ ?_) h5
      omega
  | struct _ fs cs ds df hu' => rw [hu] at hu'; cases hu'
  | array _ e n cs ds df hu' => rw [hu] at hu'; cases hu'
  | bool _ b hu' => rw [hu] at hu'; cases hu'
  | str _ s hu' => rw [hu] at hu'; cases hu'
  | int _ k' n hu' => rw [hu] at hu'; cases hu'
theorem TR_slice {e : TypeId} (kk : TR P h t cs d) (hu : P.underlying t = some (.slice e)) : ∃ (v : Value) (xs : List (List Value)), cs = [v] ∧ Fz (viewOf h) (P.cellsOf e) v xs ∧ xs.length ≤ maxLen ∧ ∀ x ∈ xs, ∃ d' : DataW D, TR P h e x d' := by
  obtain ⟨v, xs, h1, h2, h3, h4, _⟩ := TR_sliceW kk hu
  exact ⟨v, xs, h1, h2, h3, fun x hx => let ⟨d', q, _⟩ := h4 x hx; ⟨d', q⟩⟩
theorem TA_agg (kk : TA P h t v d) (ha : isAgg P t = true) : ∃ cs, v = .agg ⟨cs⟩ ∧ TR P h t cs d := by
  cases kk with
  | one v d hb k => rw [ha] at hb; cases hb
  | agg cs d hb k => exact ⟨cs, rfl, k⟩
theorem TA_one (kk : TA P h t v d) (ha : isAgg P t = false) : TR P h t [v] d := by
  cases kk with
  | one v d hb k => exact k
  | agg cs d hb k => rw [ha] at hb; cases hb
end
theorem TAs_cons {D : Type} {P : Program} {h : Heap} {t : TypeId} {ts : List TypeId} {vs : List Value} {ds : List (DataW D)} (k : TAs P h (t :: ts) vs ds) : ∃ v vs' d ds', vs = v :: vs' ∧ ds = d :: ds' ∧ TA P h t v d ∧ TAs P h ts vs' ds' := by
  cases vs with
  | nil => cases ds <;> exact k.elim
  | cons v vs => cases ds with
    | nil => exact k.elim
    | cons d ds => exact ⟨v, vs, d, ds, rfl, rfl, k.1, k.2⟩
theorem TAs_nil {D : Type} {P : Program} {h : Heap} {vs : List Value} {ds : List (DataW D)} (k : TAs P h [] vs ds) : vs = [] := by
  cases vs with
  | nil => rfl
  | cons v vs => cases ds <;> exact k.elim
theorem callP_run {F : Nat → Option HFn} {k : Nat} {vs : List Value} {h : Heap} (hp : ∀ b x, h.get b = some x → ∃ cs, x = .row cs none) (hm : h.m = 0) (hc : CallP F h.n k vs (viewOf h) fun v _ => v = .bool true) : CallsR F h.n k vs h fun r _ => r = .ret (.bool true) :=
  (hc [] h (mem_view hp hm)).mono fun r g ⟨Z', O', _, _, q⟩ => by
    cases r with
    | ret v => rw [show v = .bool true from q.2]
    | pan v => exact q.elim
end
end Go.Proofs.Ytlidnionbofkaaa.Hm.V
namespace Go.Proofs.Ytlidnionbofkaaa.Hm.V
noncomputable section
open Go Go.Proofs.Ytlidnionbofkaaa.Hm
set_option linter.all false
abbrev bs (s : ByteArray) : List UInt8 := s.data.toList
theorem bs_len (s : ByteArray) : (bs s).length = s.size := str_len s
section
variable {F : Nat → Option HFn} {lo N : Nat} {A : Tab} {Z : Vw} {O : List Pt} {K : Value → Vw → List Pt → Prop} {x y : Operand}
theorem bin_eqlS (a b : ByteArray) : bin .eql (.string a) (.string b) = some (.bool (decide (bs a = bs b))) := rfl
theorem bin_neqS (a b : ByteArray) : bin .neq (.string a) (.string b) = some (.bool (decide (¬ bs a = bs b))) := by
  have h : bin .neq (.string a) (.string b) = some (.bool (!decide (bs a = bs b))) := rfl
  rw [h]
  by_cases hp : bs a = bs b <;> simp [hp]
theorem X_eqlS {a b : ByteArray} (hx : evA A x = some (.string a)) (hy : evA A y = some (.string b)) (kt : bs a = bs b → K (.bool true) Z O) (kf : ¬ bs a = bs b → K (.bool false) Z O) : X F lo (.bin .eql x y) N A Z O K := X_split hx hy (bin_eqlS a b) kt kf
theorem X_neqS {a b : ByteArray} (hx : evA A x = some (.string a)) (hy : evA A y = some (.string b)) (kt : bs a = bs b → K (.bool false) Z O) (kf : ¬ bs a = bs b → K (.bool true) Z O) : X F lo (.bin .neq x y) N A Z O K := X_split hx hy (bin_neqS a b) kf (fun h => kt (Decidable.not_not.1 h))
theorem xIdS {s : ByteArray} {k' : IntKind} {j : Int} {k0 : Nat} [t : TN j k0] (hx : evA A x = some (.string s)) (hi : evA A y = some (.int k' j)) (h0 : 0 ≤ j) (h1 : k0 < (bs s).length) (k : K (.int .u8 ((bs s).getD k0 default).toNat) Z O) : X F lo (.indexs x y) N A Z O K :=
  X_indexs (c := (bs s).getD k0 default) hx hi h0 (by rw [t.out]; exact getD_at h1) k
theorem xLens {s : ByteArray} (hx : evA A x = some (.string s)) (k : K (.int .i64 (bs s).length) Z O) : X F lo (.lens x) N A Z O K := X_lens hx (by rw [← bs_len]; exact k)
inductive Pick : List Pt → List Pt → List Pt → Prop
  | nil {O : List Pt} : Pick O [] O
  | box {O g L r : List Pt} {f : Pt → List Pt} {b : Nat} {cs cs' : List Value} (ha : At O (.box b cs) f g) (hc : cs = cs') (k : Pick g L r) : Pick O (.box b cs' :: L) r
  | arr {O g L r : List Pt} {f : Pt → List Pt} {v : Value} {e c : Nat} {xs xs' : List (List Value)} (ha : At O (.arr v e c xs) f g) (hc : xs = xs') (k : Pick g L r) : Pick O (.arr v e c xs' :: L) r
  | gro {O g L r : List Pt} {f : Pt → List Pt} {v : Value} {e : Nat} {xs xs' : List (List Value)} (ha : At O (.gro v e xs) f g) (hc : xs = xs') (k : Pick g L r) : Pick O (.gro v e xs' :: L) r
  | map {O g L r : List Pt} {f : Pt → List Pt} {v : Value} {es es' : List (Value × Value)} (ha : At O (.map v es) f g) (hc : es = es') (k : Pick g L r) : Pick O (.map v es' :: L) r
theorem pick1 {O g L r R : List Pt} {o : Pt} {f : Pt → List Pt} (ha : At O o f g) (ih : ∀ R, (g ++ R).Perm (L ++ (r ++ R))) : (O ++ R).Perm ((o :: L) ++ (r ++ R)) :=
  (At.append (R := R) ha).perm.1.trans (List.Perm.cons _ (ih R))
theorem Pick.perm {O L r : List Pt} (k : Pick O L r) : ∀ R, (O ++ R).Perm (L ++ (r ++ R)) := by
  induction k with
  | nil => exact fun R => List.Perm.refl _
  | box ha hc k ih => subst hc; exact fun R => pick1 ha ih
  | arr ha hc k ih => subst hc; exact fun R => pick1 ha ih
  | gro ha hc k ih => subst hc; exact fun R => pick1 ha ih
  | map ha hc k ih => subst hc; exact fun R => pick1 ha ih
theorem pB {O g L r : List Pt} {f : Pt → List Pt} {b : Nat} {cs cs' : List Value} [t : AtB O b cs f g] (hc : cs = cs') (k : Pick g L r) : Pick O (.box b cs' :: L) r := .box t.out hc k
class AppL (L r : List Pt) (o : outParam (List Pt)) : Prop where
  out : L ++ r = o
instance AppL.nil {r : List Pt} : AppL [] r r := ⟨rfl⟩
instance AppL.cons {x : Pt} {L r o : List Pt} [k : AppL L r o] : AppL (x :: L) r (x :: o) := ⟨by rw [List.cons_append, k.out]⟩
theorem xN {args : List Operand} {k : Nat} {vs : List Value} {L r : List Pt} {Q : Value → Vw → List Pt → Prop} (hc : Call F lo k vs Z L Q) (ha : evsA A args = some vs) (hp : Pick O L r) (kk : ∀ v Z' O', ZL Z Z' → Q v Z' O' → ∀ O2, O2 = O' ++ r → K v Z' O2) : X F lo (.call (.func k) args) N A Z O K :=
  X_call (f := .func k) rfl ha r (Pick.perm hp) (Call.mono (by simpa using hc) fun v Z' O' hz hq => kk v Z' O' ⟨hz⟩ hq _ rfl)
theorem xNG {args : List Operand} {k : Nat} {vs : List Value} {L r : List Pt} {Q : Rv → Vw → List Pt → Prop} {KP : Value → Vw → List Pt → Prop} (hc : CallG F lo k vs Z L Q) (ha : evsA A args = some vs) (hp : Pick O L r) (kk : ∀ v Z' O', ZL Z Z' → Q (.ret v) Z' O' → ∀ O2, O2 = O' ++ r → K v Z' O2) (kp : ∀ v Z' O', ZL Z Z' → Q (.pan v) Z' O' → ∀ O2, O2 = O' ++ r → KP v Z' O2) : XG F lo (.call (.func k) args) N A Z O (thenG K KP) :=
  XG_call (f := .func k) rfl ha r (Pick.perm hp) (CallG.mono (by simpa using hc) fun w Z' O' hz hq => by
    cases w with
    | ret v => exact kk v Z' O' ⟨hz⟩ hq _ rfl
    | pan v => exact kp v Z' O' ⟨hz⟩ hq _ rfl)
theorem xPan {x : Operand} {t : TypeId} {v : Value} {KP : Value → Vw → List Pt → Prop} (hx : evA A x = some (.iface t v)) (k : KP (.iface t v) Z O) : XG F lo (.pan x) N A Z O (thenG K KP) := XG_pan hx k
theorem xDP {fo : Operand} {args : List Operand} {k : Nat} {fs cs vs : List Value} {P : Value → Vw → Prop} (hf : evA A fo = some (.func (.func k) ⟨fs⟩ ⟨cs⟩)) (ha : evsA A args = some vs) (hc : CallP F lo k ((fs ++ vs) ++ cs) Z P) (kk : ∀ v Z', ZL Z Z' → P v Z' → K v Z' O) : X F lo (.call fo args) N A Z O K :=
  X_call (O1 := []) hf ha O (fun R => by simp) (Call.mono hc fun v Z' O' hz hq => by
    obtain ⟨rfl, hq⟩ := hq
    exact kk v Z' ⟨hz⟩ hq)
end
class KeyE {α : Type} [DecidableEq α] (d : EqD) (enc : α → Value) : Prop where
  eq : ∀ a b, eqv d (enc a) (enc b) = some (decide (a = b))
  ok : ∀ a, keyOk d (enc a) = true
section
variable {α β : Type} [DecidableEq α]
def aget (k : α) : List (α × β) → Option β
  | [] => none
  | p :: l => if k = p.1 then some p.2 else aget k l
def apos (k : α) : List (α × β) → Option Nat
  | [] => none
  | p :: l => if k = p.1 then some 0 else (apos k l).map (· + 1)
def aput (k : α) (x : β) : List (α × β) → List (α × β)
  | [] => [(k, x)]
  | p :: l => if k = p.1 then (k, x) :: l else p :: aput k x l
def aents (enc : α → Value) (ve : β → Value) (l : List (α × β)) : List (Value × Value) := l.map fun p => (enc p.1, ve p.2)
theorem aget_put {k k' : α} {x : β} : ∀ {l : List (α × β)}, aget k (aput k' x l) = if k = k' then some x else aget k l
  | [] => by simp [aput, aget]
  | p :: l => by
    have ih := aget_put (k := k) (k' := k') (x := x) (l := l)
    by_cases h : k' = p.1
    · rw [aput, if_pos h]
      by_cases h2 : k = k'
      · simp [aget, h2]
      · have h3 : ¬ k = p.1 := fun e => h2 (e.trans h.symm)
        simp [aget, h2, h3]
    · rw [aput, if_neg h]
      by_cases h2 : k = p.1
      · have h3 : ¬ k = k' := fun e => h (e ▸ h2)
        rw [aget, if_pos h2, if_neg h3, aget, if_pos h2]
      · rw [aget, if_neg h2, ih, aget, if_neg h2]
theorem find_a {d : EqD} {enc : α → Value} {ve : β → Value} [ke : KeyE d enc] {k : α} : ∀ {l : List (α × β)}, findM d (enc k) (aents enc ve l) = some ((aget k l).map ve)
  | [] => rfl
  | p :: l => by
    have ih := find_a (d := d) (enc := enc) (ve := ve) (k := k) (l := l)
    show (match eqv d (enc k) (enc p.1) with | some true => some (some (ve p.2)) | some false => findM d (enc k) (aents enc ve l) | none => none) = _
    rw [ke.eq]
    by_cases h : k = p.1
    · simp [h, aget]
    · simp [h, aget, ih]
theorem place_a {d : EqD} {enc : α → Value} {ve : β → Value} [ke : KeyE d enc] {k : α} : ∀ {l : List (α × β)} {i : Nat}, placeM d (enc k) (aents enc ve l) i = some ((apos k l).map (· + i))
  | [], i => rfl
  | p :: l, i => by
    have ih := place_a (d := d) (enc := enc) (ve := ve) (k := k) (l := l) (i := i + 1)
    show (match eqv d (enc k) (enc p.1) with | some true => some (some i) | some false => placeM d (enc k) (aents enc ve l) (i + 1) | none => none) = _
    rw [ke.eq]
    by_cases h : k = p.1
    · simp [h, apos]
    · simp only [h, decide_false, ih, apos, if_false, Option.map_map]
      congr 1
      cases apos k l <;> simp; omega
theorem put_a {enc : α → Value} {ve : β → Value} {k : α} {x : β} : ∀ {l : List (α × β)}, putM (enc k) (ve x) (aents enc ve l) (apos k l) = aents enc ve (aput k x l)
  | [] => rfl
  | p :: l => by
    have ih := put_a (enc := enc) (ve := ve) (k := k) (x := x) (l := l)
    by_cases h : k = p.1
    · simp [apos, aput, h, putM, aents]
    · rw [apos, if_neg h, aput, if_neg h]
      cases e : apos k l with
      | none => rw [e] at ih; simp only [putM, aents, List.map_cons, Option.map_none] at ih ⊢; rw [List.cons_append, ih]
      | some j => rw [e] at ih; simp only [putM, aents, List.map_cons, Option.map_some] at ih ⊢; rw [List.set_cons_succ, ih]
end
section
variable {F : Nat → Option HFn} {lo N : Nat} {A : Tab} {Z : Vw} {O : List Pt} {K : Value → Vw → List Pt → Prop} {x y z : Operand} {v w : Value} {f : Pt → List Pt} {g : List Pt}
variable {α β : Type} [DecidableEq α] {enc : α → Value} {ve : β → Value} {l : List (α × β)}
theorem xLookA {d : EqD} {zero : Value} {k : α} [ke : KeyE d enc] [t : AtM O v (aents enc ve l) f g] (hm : evA A x = some v) (hk : evA A y = some (enc k)) (kk : K (((aget k l).map ve).getD zero) Z O) : X F lo (.lookup d zero x y false) N A Z O K :=
  X_lookup hm hk t.out (ke.ok k) find_a kk
theorem xPutA {d : EqD} {k : α} {b : β} [ke : KeyE d enc] [t : AtM O v (aents enc ve l) f g] (hm : evA A x = some v) (hk : evA A y = some (enc k)) (hx : evA A z = some (ve b)) (kk : K undef Z (f (.map v (aents enc ve (aput k b l))))) : X F lo (.mput d x y z) N A Z O K := by
  refine X_mput hm hk hx t.out (ke.ok k) (r := apos k l) ?_ ?_
  · have := place_a (d := d) (enc := enc) (ve := ve) (k := k) (l := l) (i := 0)
    rw [this]; cases apos k l <;> rfl
  · rw [put_a]; exact kk
end
instance : KeyE (.prim .str) (fun s : List UInt8 => Value.string ⟨⟨s⟩⟩) where
  eq a b := by simp [eqv, veq0]
  ok a := by simp [keyOk, veq0]
instance {k : IntKind} : KeyE (.prim .int) (fun n : Int => Value.int k n) where
  eq a b := by
    simp only [eqv, veq0, if_true]
    congr 1
  ok a := by simp [keyOk, veq0]
section
variable {F : Nat → Option HFn} {lo N : Nat} {A : Tab} {Z : Vw} {O : List Pt} {K : Value → Vw → List Pt → Prop} {a y : Operand} {v w : Value} {f : Pt → List Pt} {g : List Pt}
theorem CallP.of {k : Nat} {vs : List Value} {Q : Value → Vw → List Pt → Prop} {P : Value → Vw → Prop} (hc : Call F lo k vs Z [] Q) (hq : ∀ v Z' O', Z.le Z' → Q v Z' O' → Upd lo Z' O' fun Z2 O2 => O2 = [] ∧ P v Z2) : CallP F lo k vs Z P := by
  intro R h m
  refine (hc R h m).mono fun r h' ⟨Z', O', k2, k3, k4⟩ => ?_
  cases r with
  | ret v =>
    obtain ⟨Z2, O2, q1, q2, q3⟩ := hq v Z' O' k2 k4 R h' k3
    exact ⟨Z2, O2, k2.trans q1, q2, q3⟩
  | pan v => exact k4.elim
end
theorem pow_pos_ (n : Nat) : (0 : Int) < 2 ^ n := by
  have : (2 : Int) ^ n = ((2 ^ n : Nat) : Int) := by simp
  rw [this]
  exact_mod_cast Nat.pow_pos (by decide)
theorem pow_le_ {m n : Nat} (h : m ≤ n) : (2 : Int) ^ m ≤ 2 ^ n := by
  have h1 : (2 : Int) ^ m = ((2 ^ m : Nat) : Int) := by simp
  have h2 : (2 : Int) ^ n = ((2 ^ n : Nat) : Int) := by simp
  rw [h1, h2]
  exact_mod_cast Nat.pow_le_pow_right (by decide) h
theorem pow_w {w : Int} (h0 : 1 ≤ w) (h1 : w ≤ 8) : (2 : Int) ≤ 2 ^ w.toNat ∧ (2 : Int) ^ w.toNat ≤ 256 := by
  have a := pow_le_ (m := 1) (n := w.toNat) (by omega)
  have b := pow_le_ (m := w.toNat) (n := 8) (by omega)
  have c : (2 : Int) ^ 1 = 2 := by decide
  have d : (2 : Int) ^ 8 = 256 := by decide
  omega
section
variable {F : Nat → Option HFn} {lo N : Nat} {A : Tab} {Z : Vw} {O : List Pt} {K : Value → Vw → List Pt → Prop} {x y : Operand}
theorem X_shlI {a : Int} {s0 : Nat} {yk : IntKind} {s : Int} [ns : TN s s0] (hx : evA A x = some (.int .i64 a)) (hy : evA A y = some (.int yk s)) (h0 : 0 ≤ s) (h1 : s < 64) (h2 : 0 ≤ a * 2 ^ s0) (h3 : a * 2 ^ s0 < 9223372036854775808) (k : K (.int .i64 (a * 2 ^ s0)) Z O) : X F lo (.bin .shl x y) N A Z O K :=
  X_bin hx hy (v := .int .i64 (a * 2 ^ s.toNat)) (by
    have : bin .shl (.int .i64 a) (.int yk s) = pureRun (Op.shift .shl .i64 a yk s) := rfl
    rw [this]
    have e2 : ¬ s < 0 := by omega
    have e3 : min s.toNat IntKind.i64.bits = s.toNat := by show min s.toNat 64 = s.toNat; omega
    simp only [Op.shift, e2, if_false, e3]
    rw [← ns.out] at h2 h3
    rw [wrap_i64 (by omega) h3]; rfl) (by rw [ns.out]; exact k)
end
section
variable {F : Nat → Option HFn} {lo N : Nat} {A : Tab} {Z : Vw} {O : List Pt} {K : Value → Vw → List Pt → Prop} {x y : Operand} {v : Value} {f : Pt → List Pt} {g : List Pt}
theorem xEqL {a b : List UInt8} (hx : evA A x = some (.string ⟨⟨a⟩⟩)) (hy : evA A y = some (.string ⟨⟨b⟩⟩)) (kt : a = b → K (.bool true) Z O) (kf : ¬ a = b → K (.bool false) Z O) : X F lo (.bin .eql x y) N A Z O K := X_eqlS hx hy kt kf
theorem xNeL {a b : List UInt8} (hx : evA A x = some (.string ⟨⟨a⟩⟩)) (hy : evA A y = some (.string ⟨⟨b⟩⟩)) (kt : a = b → K (.bool false) Z O) (kf : ¬ a = b → K (.bool true) Z O) : X F lo (.bin .neq x y) N A Z O K := X_neqS hx hy kt kf
theorem xIdL {s : List UInt8} {k' : IntKind} {j : Int} {k0 : Nat} [t : TN j k0] (hx : evA A x = some (.string ⟨⟨s⟩⟩)) (hi : evA A y = some (.int k' j)) (h0 : 0 ≤ j) (h1 : k0 < s.length) (k : K (.int .u8 (s.getD k0 default).toNat) Z O) : X F lo (.indexs x y) N A Z O K := xIdS hx hi h0 h1 k
theorem xLenL {s : List UInt8} (hx : evA A x = some (.string ⟨⟨s⟩⟩)) (k : K (.int .i64 s.length) Z O) : X F lo (.lens x) N A Z O K := xLens hx k
theorem xLookB {α : Type} [DecidableEq α] {enc : α → Value} {l : List (α × Bool)} {d : EqD} {k : α} [ke : KeyE d enc] [t : AtM O v (aents enc Value.bool l) f g] (hm : evA A x = some v) (hk : evA A y = some (enc k)) (kt : (aget k l).getD false = true → K (.bool true) Z O) (kf : (aget k l).getD false = false → K (.bool false) Z O) : X F lo (.lookup d (.bool false) x y false) N A Z O K := by
  refine xLookA (ke := ke) (t := t) hm hk ?_
  have e : ((aget k l).map Value.bool).getD (.bool false) = .bool ((aget k l).getD false) := by cases aget k l <;> rfl
  rw [e]
  cases h : (aget k l).getD false
  · exact kf h
  · exact kt h
end
end
end Go.Proofs.Ytlidnionbofkaaa.Hm.V
