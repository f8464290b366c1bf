/- A logic over H in which memory is told by parts: rows that are the call's own, and rows that stand for good (the view Z). What a step asks of memory, and what it leaves. -/
import Derived.Test.YtbjgnogcjglcoaaHPc
import Derived.Test.YtbjgnogcjglcoaaHZg
namespace Go.Proofs.Ytbjgnogcjglcoaa.Hm
open Go
set_option linter.all false
set_option linter.unusedSimpArgs false
/-! ### parts -/
inductive ZR where
  | row (cs : List Value)
  | map (es : List (Value × Value))
abbrev Vw := Nat → Option ZR
def Vw.le (Z Z' : Vw) : Prop := ∀ b x, Z b = some x → Z' b = some x
theorem Vw.le.refl (Z : Vw) : Z.le Z := fun _ _ h => h
theorem Vw.le.trans {Z Z' Z'' : Vw} (a : Z.le Z') (b : Z'.le Z'') : Z.le Z'' := fun x y h => b _ _ (a _ _ h)
def ents (es : List (Value × Value × Nat)) : List (Value × Value) := es.map fun e => (e.1, e.2.1)
def bb : Value → Nat
  | .slice (some a) _ _ => a.block
  | .map (some b) => b
  | .pointer (some a) => a.block
  | _ => 0
def oo : Value → Nat
  | .slice (some a) _ _ => a.off
  | _ => 0
/-- What is the call's own: a box, an array's slice, a slice that grows, a map. -/
inductive Pt where
  | box (b : Nat) (cs : List Value)
  | arr (v : Value) (e c : Nat) (xs : List (List Value))
  | gro (v : Value) (e : Nat) (xs : List (List Value))
  | map (v : Value) (es : List (Value × Value))
def Pt.blk : Pt → Option Nat
  | .box b _ => some b
  | .arr v _ _ _ => some (bb v)
  | .gro (.slice (some a) _ _) _ _ => some a.block
  | .gro _ _ _ => none
  | .map v _ => some (bb v)
def Pt.ok (lo : Nat) (h : Heap) : Pt → Prop
  | .box b cs => lo ≤ b ∧ h.get b = some (.row cs none)
  | .arr v e c xs => ∃ b sp, v = .slice (some ⟨b, 0, none⟩) xs.length c ∧ lo ≤ b ∧ h.get b = some (.row (xs.flatten ++ sp) none) ∧ xs.length ≤ c ∧ sp.length = (c - xs.length) * e ∧ ∀ x ∈ xs, x.length = e
  | .gro v e xs => (∀ x ∈ xs, x.length = e) ∧ 0 < e ∧ ((v = .slice none 0 0 ∧ xs = []) ∨ ∃ b c fl, v = .slice (some ⟨b, 0, some e⟩) xs.length xs.length ∧ lo ≤ b ∧ h.get b = some (.row xs.flatten (some c)) ∧ h.cl c = some (b, fl) ∧ fl ≤ b)
  | .map v es => ∃ b es' t, v = .map (some b) ∧ lo ≤ b ∧ h.get b = some (.map es' t) ∧ ents es' = es
def blks (O : List Pt) : List Nat := O.filterMap Pt.blk
def zok (h : Heap) (O : List Pt) (b : Nat) : ZR → Prop
  | .row cs => h.cells b = some cs ∧ b ∉ blks O ∧ ∀ cs' c, h.get b = some (.row cs' (some c)) → ∃ t fl, h.cl c = some (t, fl) ∧ t ∉ blks O
  | .map es => b ∉ blks O ∧ ∃ es' t, h.get b = some (.map es' t) ∧ ents es' = es
structure Mem (lo : Nat) (Z : Vw) (O : List Pt) (h : Heap) : Prop where
  own : ∀ o ∈ O, o.ok lo h
  nd : (blks O).Nodup
  z : ∀ b x, Z b = some x → zok h O b x
  w1 : ∀ c t fl, h.cl c = some (t, fl) → t < h.n
  w2 : ∀ b cs c, h.get b = some (.row cs (some c)) → c < h.m
  lon : lo ≤ h.n
theorem Pt.ok.lt {lo : Nat} {h : Heap} {o : Pt} (k : o.ok lo h) {b : Nat} (hb : o.blk = some b) : b < h.n ∧ lo ≤ b ∧ ∃ x, h.get b = some x := by
  cases o with
  | box b' cs => cases hb; exact ⟨get_lt k.2, k.1, _, k.2⟩
  | arr v e c xs =>
    obtain ⟨b', sp, rfl, h1, h2, _⟩ := k
    cases hb; exact ⟨get_lt h2, h1, _, h2⟩
  | gro v e xs =>
    obtain ⟨_, _, ⟨rfl, _⟩ | ⟨b', c, fl, rfl, h1, h2, _⟩⟩ := k
    · cases hb
    · cases hb; exact ⟨get_lt h2, h1, _, h2⟩
  | map v es =>
    obtain ⟨b', es', t, rfl, h1, h2, _⟩ := k
    cases hb; exact ⟨get_lt h2, h1, _, h2⟩
theorem mem_blks {O : List Pt} {b : Nat} : b ∈ blks O ↔ ∃ o ∈ O, o.blk = some b := by simp [blks, List.mem_filterMap]
theorem cl_lt' {h : Heap} {c : Nat} {x : Nat × Nat} (e : h.cl c = some x) : c < h.m := Heap.cl_lt e
/-- What is not touched stays. -/
theorem Pt.ok.keep {lo : Nat} {h h' : Heap} {o : Pt} (k : o.ok lo h) (hg : ∀ b, o.blk = some b → h'.get b = h.get b) (hc : ∀ b c fl, o.blk = some b → h.cl c = some (b, fl) → h'.cl c = h.cl c) : o.ok lo h' := by
  cases o with
  | box b cs => exact ⟨k.1, (hg b rfl).trans k.2⟩
  | arr v e c xs =>
    obtain ⟨b, sp, rfl, h1, h2, h3⟩ := k
    exact ⟨b, sp, rfl, h1, (hg b rfl).trans h2, h3⟩
  | gro v e xs =>
    obtain ⟨k1, k2, ⟨rfl, k3⟩ | ⟨b, c, fl, rfl, h1, h2, h3, h4⟩⟩ := k
    · exact ⟨k1, k2, .inl ⟨rfl, k3⟩⟩
    · exact ⟨k1, k2, .inr ⟨b, c, fl, rfl, h1, (hg b rfl).trans h2, (hc b c fl rfl h3).trans h3, h4⟩⟩
  | map v es =>
    obtain ⟨b, es', t, rfl, h1, h2, h3⟩ := k
    exact ⟨b, es', t, rfl, h1, (hg b rfl).trans h2, h3⟩
/-- Memory changes in some of the call's own blocks (T), and grows. -/
theorem Mem.change {lo : Nat} {Z : Vw} {O O' : List Pt} {h h' : Heap} (k : Mem lo Z O h) (T : Nat → Prop) (hT : ∀ b, T b → b ∈ blks O) (hn : h.n ≤ h'.n)
    (hg : ∀ b, b < h.n → ¬ T b → h'.get b = h.get b) (hc : ∀ c, c < h.m → (∀ t fl, h.cl c = some (t, fl) → ¬ T t) → h'.cl c = h.cl c)
    (hO : ∀ o ∈ O', o.ok lo h' ∨ (o ∈ O ∧ ∀ b, o.blk = some b → ¬ T b)) (hnd : (blks O').Nodup) (hb : ∀ b ∈ blks O', b ∈ blks O ∨ h.n ≤ b)
    (w1 : ∀ c t fl, h'.cl c = some (t, fl) → t < h'.n) (w2 : ∀ b cs c, h'.get b = some (.row cs (some c)) → c < h'.m) : Mem lo Z O' h' where
  own o ho := by
    rcases hO o ho with h1 | ⟨h1, h2⟩
    · exact h1
    · refine (k.own o h1).keep (fun b e => hg b ((k.own o h1).lt e).1 (h2 b e)) (fun b c fl e ec => hc c (Heap.cl_lt ec) fun t fl' et => ?_)
      rw [ec] at et; cases et; exact h2 b e
  nd := hnd
  z b x hx := by
    have hz := k.z b x hx
    have hno : ∀ t, t < h.n → t ∉ blks O → t ∉ blks O' := fun t ht hto hto' => by
      rcases hb t hto' with h1 | h1
      · exact hto h1
      · omega
    cases x with
    | row cs =>
      obtain ⟨h1, h2, h3⟩ := hz
      have hbn := cells_lt h1
      have hgb := hg b hbn (fun ht => h2 (hT b ht))
      have hcl : ∀ cs' c, h.get b = some (.row cs' (some c)) → h'.cl c = h.cl c := fun cs' c e => by
        obtain ⟨t, fl, e1, e2⟩ := h3 cs' c e
        exact hc c (Heap.cl_lt e1) fun t' fl' et => by rw [e1] at et; cases et; exact fun ht => e2 (hT _ ht)
      refine ⟨?_, hno b hbn h2, fun cs' c e => ?_⟩
      · rw [← h1]; exact Heap.cells_congr hgb fun c cs' e => hcl cs' c e
      · rw [hgb] at e
        obtain ⟨t, fl, e1, e2⟩ := h3 cs' c e
        exact ⟨t, fl, (hcl cs' c e).trans e1, hno t (k.w1 c t fl e1) e2⟩
    | map es =>
      obtain ⟨h2, es', t, h1, h3⟩ := hz
      have hbn := get_lt h1
      exact ⟨hno b hbn h2, es', t, (hg b hbn (fun ht => h2 (hT b ht))).trans h1, h3⟩
  w1 := w1
  w2 := w2
  lon := Nat.le_trans k.lon hn
/-! ### places in a list of parts -/
/-- A part in a list: f puts another in its place, g is the rest. -/
inductive At : List Pt → Pt → (Pt → List Pt) → List Pt → Prop
  | here {o : Pt} {S : List Pt} : At (o :: S) o (fun x => x :: S) S
  | there {x o : Pt} {S g : List Pt} {f : Pt → List Pt} : At S o f g → At (x :: S) o (fun y => x :: f y) (x :: g)
theorem At.perm {O g : List Pt} {o : Pt} {f : Pt → List Pt} (k : At O o f g) : O.Perm (o :: g) ∧ ∀ x, (f x).Perm (x :: g) := by
  induction k with
  | here => exact ⟨.refl _, fun _ => .refl _⟩
  | there k ih => exact ⟨(List.Perm.cons _ ih.1).trans (.swap _ _ _), fun y => (List.Perm.cons _ (ih.2 y)).trans (.swap _ _ _)⟩
theorem Mem.perm {lo : Nat} {Z : Vw} {O O' : List Pt} {h : Heap} (k : Mem lo Z O h) (p : O.Perm O') : Mem lo Z O' h := by
  have hp : (blks O).Perm (blks O') := p.filterMap _
  have hm : ∀ b, b ∉ blks O → b ∉ blks O' := fun b hb hb' => hb (hp.mem_iff.2 hb')
  refine ⟨fun o ho => k.own o (p.mem_iff.2 ho), hp.nodup_iff.1 k.nd, fun b x hx => ?_, k.w1, k.w2, k.lon⟩
  have hz := k.z b x hx
  cases x with
  | row cs => exact ⟨hz.1, hm _ hz.2.1, fun cs' c e => let ⟨t, fl, e1, e2⟩ := hz.2.2 cs' c e; ⟨t, fl, e1, hm _ e2⟩⟩
  | map es => exact ⟨hm _ hz.1, hz.2⟩
theorem Mem.drop {lo : Nat} {Z : Vw} {o : Pt} {O : List Pt} {h : Heap} (k : Mem lo Z (o :: O) h) : Mem lo Z O h := by
  have hs : ∀ b, b ∉ blks (o :: O) → b ∉ blks O := fun b hb hb' => hb (by
    obtain ⟨x, hx, e⟩ := mem_blks.1 hb'
    exact mem_blks.2 ⟨x, List.mem_cons_of_mem _ hx, e⟩)
  refine ⟨fun x hx => k.own x (List.mem_cons_of_mem _ hx), ?_, fun b x hx => ?_, k.w1, k.w2, k.lon⟩
  · have := k.nd
    unfold blks at this ⊢
    rw [List.filterMap_cons] at this
    split at this
    · exact this
    · exact (List.nodup_cons.1 this).2
  · have hz := k.z b x hx
    cases x with
    | row cs => exact ⟨hz.1, hs _ hz.2.1, fun cs' c e => let ⟨t, fl, e1, e2⟩ := hz.2.2 cs' c e; ⟨t, fl, e1, hs _ e2⟩⟩
    | map es => exact ⟨hs _ hz.1, hz.2⟩
theorem blks_cons (o : Pt) (O : List Pt) : blks (o :: O) = (match o.blk with | some b => b :: blks O | none => blks O) := by
  unfold blks
  rw [List.filterMap_cons]
  cases o.blk <;> rfl
/-- One part changes (or is put in the place of one), in its own block or in a new one. -/
theorem Mem.swap {lo : Nat} {Z : Vw} {o o' : Pt} {O : List Pt} {h h' : Heap} (k : Mem lo Z (o :: O) h) (hn : h.n ≤ h'.n) (hok : o'.ok lo h')
    (hg : ∀ b, b < h.n → o.blk ≠ some b → h'.get b = h.get b) (hc : ∀ c, c < h.m → (∀ t fl, h.cl c = some (t, fl) → o.blk ≠ some t) → h'.cl c = h.cl c)
    (hb : ∀ b, o'.blk = some b → o.blk = some b ∨ h.n ≤ b)
    (w1 : ∀ c t fl, h'.cl c = some (t, fl) → t < h'.n) (w2 : ∀ b cs c, h'.get b = some (.row cs (some c)) → c < h'.m) : Mem lo Z (o' :: O) h' := by
  have hnd := k.nd
  rw [blks_cons] at hnd
  have hO : ∀ x ∈ O, ∀ b, x.blk = some b → o.blk ≠ some b ∧ b < h.n := fun x hx b e => by
    refine ⟨fun eo => ?_, ((k.own x (List.mem_cons_of_mem _ hx)).lt e).1⟩
    rw [eo] at hnd
    exact (List.nodup_cons.1 hnd).1 (mem_blks.2 ⟨x, hx, e⟩)
  refine k.change (fun b => o.blk = some b) (fun b e => mem_blks.2 ⟨o, List.mem_cons_self, e⟩) hn hg hc (fun x hx => ?_) ?_ (fun b e => ?_) w1 w2
  · rcases List.mem_cons.1 hx with rfl | hx
    · exact .inl hok
    · exact .inr ⟨List.mem_cons_of_mem _ hx, fun b e => (hO x hx b e).1⟩
  · have hnd2 : (blks O).Nodup := by
      split at hnd
      · exact (List.nodup_cons.1 hnd).2
      · exact hnd
    rw [blks_cons]
    split
    · rename_i b e
      refine List.nodup_cons.2 ⟨fun hm => ?_, hnd2⟩
      obtain ⟨x, hx, e2⟩ := mem_blks.1 hm
      obtain ⟨q1, q2⟩ := hO x hx b e2
      rcases hb b e with h1 | h1
      · exact q1 h1
      · omega
    · exact hnd2
  · obtain ⟨x, hx, e2⟩ := mem_blks.1 e
    rcases List.mem_cons.1 hx with rfl | hx
    · rcases hb b e2 with h1 | h1
      · exact .inl (mem_blks.2 ⟨o, List.mem_cons_self, h1⟩)
      · exact .inr h1
    · exact .inl (mem_blks.2 ⟨x, List.mem_cons_of_mem _ hx, e2⟩)
/-- A part that has no block: it may always be put there. -/
theorem Mem.nilpart {lo : Nat} {Z : Vw} {o : Pt} {O : List Pt} {h : Heap} (k : Mem lo Z O h) (hok : o.ok lo h) (hb : o.blk = none) : Mem lo Z (o :: O) h := by
  have e : blks (o :: O) = blks O := by rw [blks_cons, hb]
  refine ⟨fun x hx => ?_, by rw [e]; exact k.nd, fun b x hx => ?_, k.w1, k.w2, k.lon⟩
  · rcases List.mem_cons.1 hx with rfl | hx
    · exact hok
    · exact k.own x hx
  · have hz := k.z b x hx
    cases x with
    | row cs => unfold zok; rw [e]; exact hz
    | map es => unfold zok; rw [e]; exact hz
theorem Mem.gro0 {lo : Nat} {Z : Vw} {O : List Pt} {h : Heap} (k : Mem lo Z O h) {e : Nat} (he : 0 < e) : Mem lo Z (.gro (.slice none 0 0) e [] :: O) h :=
  k.nilpart ⟨fun x hx => absurd hx (by simp), he, .inl ⟨rfl, rfl⟩⟩ rfl
/-- Something new. -/
theorem Mem.push {lo : Nat} {Z : Vw} {o' : Pt} {O : List Pt} {h h' : Heap} (k : Mem lo Z O h) (hn : h.n ≤ h'.n) (hok : o'.ok lo h') (hg : ∀ b, b < h.n → h'.get b = h.get b) (hc : ∀ c, c < h.m → h'.cl c = h.cl c)
    (hb : ∀ b, o'.blk = some b → h.n ≤ b) (w1 : ∀ c t fl, h'.cl c = some (t, fl) → t < h'.n) (w2 : ∀ b cs c, h'.get b = some (.row cs (some c)) → c < h'.m) : Mem lo Z (o' :: O) h' :=
  (k.gro0 (e := 1) (by omega)).swap hn hok (fun b hb' _ => hg b hb') (fun c hc' _ => hc c hc') (fun b e => .inr (hb b e)) w1 w2
theorem new_w1 {h : Heap} {cs : List Value} (w1 : ∀ c t fl, h.cl c = some (t, fl) → t < h.n) : ∀ c t fl, (h.new cs).cl c = some (t, fl) → t < (h.new cs).n := fun c t fl e => Nat.lt_succ_of_lt (w1 c t fl e)
theorem new_w2 {h : Heap} {cs : List Value} (w2 : ∀ b cs c, h.get b = some (.row cs (some c)) → c < h.m) : ∀ b cs' c, (h.new cs).get b = some (.row cs' (some c)) → c < (h.new cs).m := fun b cs' c e => by
  rw [Heap.get_new] at e
  split at e
  · cases e
  · exact w2 b cs' c e
theorem Mem.box {lo : Nat} {Z : Vw} {O : List Pt} {h : Heap} (k : Mem lo Z O h) (cs : List Value) : Mem lo Z (.box h.n cs :: O) (h.new cs) :=
  k.push (Nat.le_succ _) ⟨k.lon, get_top h cs⟩ (fun b hb => Hm.get_new h cs hb) (fun c hc => rfl) (fun b e => by cases e; exact Nat.le_refl _) (new_w1 k.w1) (new_w2 k.w2)
theorem Mem.arr {lo : Nat} {Z : Vw} {O : List Pt} {h : Heap} (k : Mem lo Z O h) {e c : Nat} {xs : List (List Value)} {sp : List Value} (hx : ∀ x ∈ xs, x.length = e) (hl : xs.length ≤ c) (hs : sp.length = (c - xs.length) * e) :
    Mem lo Z (.arr (.slice (some ⟨h.n, 0, none⟩) xs.length c) e c xs :: O) (h.new (xs.flatten ++ sp)) :=
  k.push (Nat.le_succ _) ⟨h.n, sp, rfl, k.lon, get_top h _, hl, hs, hx⟩ (fun b hb => Hm.get_new h _ hb) (fun c hc => rfl) (fun b e => by cases e; exact Nat.le_refl _) (new_w1 k.w1) (new_w2 k.w2)
theorem Mem.mkmap {lo : Nat} {Z : Vw} {O : List Pt} {h : Heap} (k : Mem lo Z O h) : Mem lo Z (.map (.map (some h.n)) [] :: O) h.newMap :=
  k.push (Nat.le_succ _) ⟨h.n, [], 0, rfl, k.lon, by rw [Heap.get_newMap, if_pos rfl], rfl⟩ (fun b hb => by rw [Heap.get_newMap, if_neg (Nat.ne_of_lt hb)]) (fun c hc => rfl) (fun b e => by cases e; exact Nat.le_refl _)
    (fun c t fl e => Nat.lt_succ_of_lt (k.w1 c t fl e)) (fun b cs' c e => by
      rw [Heap.get_newMap] at e
      split at e
      · cases e
      · exact k.w2 b cs' c e)
/-- A growing slice's first row, or its next one. -/
theorem Mem.newC {lo : Nat} {Z : Vw} {O : List Pt} {h : Heap} (k : Mem lo Z O h) {e : Nat} (he : 0 < e) {xs : List (List Value)} (hx : ∀ x ∈ xs, x.length = e) :
    Mem lo Z (.gro (.slice (some ⟨h.n, 0, some e⟩) xs.length xs.length) e xs :: O) (h.newC xs.flatten) := by
  refine k.push (Nat.le_succ _) ⟨hx, he, .inr ⟨h.n, h.m, 0, rfl, k.lon, by rw [Heap.get_newC, if_pos rfl], by rw [Heap.cl_newC, if_pos rfl], Nat.zero_le _⟩⟩
    (fun b hb => by rw [Heap.get_newC, if_neg (Nat.ne_of_lt hb)]) (fun c hc => by rw [Heap.cl_newC, if_neg (Nat.ne_of_lt hc)]) (fun b e => by cases e; exact Nat.le_refl _) (fun c t fl e => ?_) (fun b cs' c e => ?_)
  · rw [Heap.cl_newC] at e
    split at e
    · cases e; exact Nat.lt_succ_self _
    · exact Nat.lt_succ_of_lt (k.w1 c t fl e)
  · rw [Heap.get_newC] at e
    split at e
    · cases e; exact Nat.lt_succ_self _
    · exact Nat.lt_succ_of_lt (k.w2 b cs' c e)
theorem Mem.extC {lo : Nat} {Z : Vw} {O : List Pt} {h : Heap} {b c fl fl' n cp : Nat} {e : Nat} {xs xs' : List (List Value)} (k : Mem lo Z (.gro (.slice (some ⟨b, 0, some e⟩) n cp) e xs :: O) h) (hcl : h.cl c = some (b, fl)) (hfl : fl' ≤ h.n)
    (hx : ∀ x ∈ xs', x.length = e) : Mem lo Z (.gro (.slice (some ⟨h.n, 0, some e⟩) xs'.length xs'.length) e xs' :: O) (h.extC c fl' xs'.flatten) := by
  have he : 0 < e := (k.own _ List.mem_cons_self).2.1
  refine k.swap (Nat.le_succ _) ⟨hx, he, .inr ⟨h.n, c, fl', rfl, k.lon, by rw [Heap.get_extC, if_pos rfl], by rw [Heap.cl_extC hcl, if_pos rfl], hfl⟩⟩
    (fun b' hb _ => by rw [Heap.get_extC, if_neg (Nat.ne_of_lt hb)]) (fun c' hc hne => ?_) (fun b' e => by cases e; exact .inr (Nat.le_refl _)) (fun c' t fl e => ?_) (fun b' cs' c' e => ?_)
  · rw [Heap.cl_extC hcl]
    split
    · rename_i ec
      subst ec
      exact absurd rfl (hne b fl hcl)
    · rfl
  · rw [Heap.cl_extC hcl] at e
    split at e
    · cases e; exact Nat.lt_succ_self _
    · exact Nat.lt_succ_of_lt (k.w1 c' t _ e)
  · rw [Heap.get_extC] at e
    split at e
    · cases e; exact (show c < h.m from Heap.cl_lt hcl)
    · exact k.w2 b' cs' c' e
theorem setB_w2 {h : Heap} {b : Nat} {y x : HB} (hb : h.get b = some y) (w2 : ∀ b cs c, h.get b = some (.row cs (some c)) → c < h.m) (hx : ∀ cs c, x = .row cs (some c) → c < h.m) : ∀ b' cs' c, (h.setB b x).get b' = some (.row cs' (some c)) → c < (h.setB b x).m := fun b' cs' c e => by
  rw [Heap.get_setB hb] at e
  split at e
  · exact hx cs' c (Option.some.inj e)
  · exact w2 b' cs' c e
/-- A row of no class written. -/
theorem Mem.setRow {lo : Nat} {Z : Vw} {o o' : Pt} {O : List Pt} {h : Heap} {b : Nat} {cs cs' : List Value} (k : Mem lo Z (o :: O) h) (hb : o.blk = some b) (hb' : o'.blk = some b) (hr : h.get b = some (.row cs none)) (hok : o'.ok lo (h.setB b (.row cs' none))) :
    Mem lo Z (o' :: O) (h.setB b (.row cs' none)) :=
  k.swap (Nat.le_refl _) hok (fun b' _ hne => by rw [Heap.get_setB hr, if_neg (fun e => hne (by rw [hb, e]))]) (fun c _ _ => rfl) (fun b'' e => .inl (by rw [hb, ← hb', e])) (fun c t fl e => k.w1 c t fl e) (setB_w2 hr k.w2 fun cs c e => by cases e)
theorem Mem.setMap {lo : Nat} {Z : Vw} {o o' : Pt} {O : List Pt} {h : Heap} {b : Nat} {x y : HB} (k : Mem lo Z (o :: O) h) (hb : o.blk = some b) (hb' : o'.blk = some b) (hr : h.get b = some y) (hx : ∀ cs c, x ≠ .row cs (some c)) (hok : o'.ok lo (h.setB b x)) :
    Mem lo Z (o' :: O) (h.setB b x) :=
  k.swap (Nat.le_refl _) hok (fun b' _ hne => by rw [Heap.get_setB hr, if_neg (fun e => hne (by rw [hb, e]))]) (fun c _ _ => rfl) (fun b'' e => .inl (by rw [hb, ← hb', e])) (fun c t fl e => k.w1 c t fl e) (setB_w2 hr k.w2 fun cs c e => absurd e (hx cs c))
/-- A growing slice written in place. -/
theorem Mem.setGro {lo : Nat} {Z : Vw} {O : List Pt} {h : Heap} {b c fl n cp e : Nat} {xs xs' : List (List Value)} {cs : List Value} (k : Mem lo Z (.gro (.slice (some ⟨b, 0, some e⟩) n cp) e xs :: O) h) (hr : h.get b = some (.row cs (some c))) (hcl : h.cl c = some (b, fl))
    (hn : n = xs'.length) (hcp : cp = xs'.length) (hx : ∀ x ∈ xs', x.length = e) : Mem lo Z (.gro (.slice (some ⟨b, 0, some e⟩) n cp) e xs' :: O) ((h.setB b (.row xs'.flatten (some c))).setC c (b, b)) := by
  have hok := k.own _ List.mem_cons_self
  have hlo := (hok.lt (b := b) rfl)
  have hcl2 : (h.setB b (.row xs'.flatten (some c))).cl c = some (b, fl) := hcl
  subst hn; subst hcp
  refine k.swap (Nat.le_refl _) ⟨hx, hok.2.1, .inr ⟨b, c, b, rfl, hlo.2.1, ?_, ?_, Nat.le_refl _⟩⟩ (fun b' _ hne => ?_) (fun c' hc hne => ?_) (fun b' e => .inl e) (fun c' t fl e => ?_) (fun b' cs' c' e => ?_)
  · rw [Heap.get_setC, Heap.get_setB hr, if_pos rfl]
  · rw [Heap.cl_setC hcl2, if_pos rfl]
  · rw [Heap.get_setC, Heap.get_setB hr, if_neg (fun e => hne (by rw [e]; rfl))]
  · rw [Heap.cl_setC hcl2]
    split
    · rename_i ec
      subst ec
      exact absurd rfl (hne b _ hcl)
    · rfl
  · rw [Heap.cl_setC hcl2] at e
    split at e
    · cases e; exact hlo.1
    · exact k.w1 c' t _ e
  · rw [Heap.get_setC, Heap.get_setB hr] at e
    split at e
    · cases e; exact (show c < h.m from Heap.cl_lt hcl)
    · exact k.w2 b' cs' c' e
/-! ### what stands for good -/
/-- A slice that stands: its elements, each of e cells. -/
class Fz (Z : semiOutParam Vw) (e : outParam Nat) (v : Value) (xs : outParam (List (List Value))) : Prop where
  all : ∀ x ∈ xs, x.length = e
  out : (v = .slice none 0 0 ∧ xs = []) ∨ ∃ b o s c cs, v = .slice (some ⟨b, o, s⟩) xs.length c ∧ xs.length ≤ c ∧ (s = none ∨ s = some e) ∧ Z b = some (.row cs) ∧ o + xs.length * e ≤ cs.length ∧ (cs.drop o).take (xs.length * e) = xs.flatten
theorem Fz.le {Z Z' : Vw} {e : Nat} {v : Value} {xs : List (List Value)} (k : Fz Z e v xs) (hz : Z.le Z') : Fz Z' e v xs := by
  obtain ⟨k1, k2 | ⟨b, o, s, c, cs, rfl, h1, h2, h3, h4⟩⟩ := k
  · exact ⟨k1, .inl k2⟩
  · exact ⟨k1, .inr ⟨b, o, s, c, cs, rfl, h1, h2, hz _ _ h3, h4⟩⟩
theorem Fz.nil (Z : Vw) (e : Nat) : Fz Z e (.slice none 0 0) [] := ⟨fun x hx => absurd hx (by simp), .inl ⟨rfl, rfl⟩⟩
theorem flatten_len {e : Nat} : ∀ {xs : List (List Value)}, (∀ x ∈ xs, x.length = e) → xs.flatten.length = xs.length * e
  | [], _ => by simp
  | x :: xs, h => by
    rw [List.flatten_cons, List.length_append, h x (by simp), flatten_len fun y hy => h y (by simp [hy]), List.length_cons, Nat.succ_mul]; omega
theorem Mem.freeze {lo : Nat} {Z : Vw} {o : Pt} {O : List Pt} {h : Heap} {b : Nat} {cs : List Value} (k : Mem lo Z (o :: O) h) (hb : o.blk = some b) (hcs : h.cells b = some cs)
    (hcl : ∀ cs' c, h.get b = some (.row cs' (some c)) → ∃ fl, h.cl c = some (b, fl)) : ∃ Z' : Vw, Z.le Z' ∧ Z' b = some (.row cs) ∧ Mem lo Z' O h := by
  have hnd := k.nd
  rw [blks_cons, hb] at hnd
  have hbO := (List.nodup_cons.1 hnd).1
  have kd := k.drop
  have hZ : Z b = none := by
    cases e : Z b with
    | none => rfl
    | some x =>
      have hz := k.z b x e
      have hm : b ∈ blks (o :: O) := mem_blks.2 ⟨o, List.mem_cons_self, hb⟩
      cases x with
      | row cs => exact absurd hm hz.2.1
      | map es => exact absurd hm hz.1
  refine ⟨fun x => if x = b then some (.row cs) else Z x, fun x y e => ?_, by simp, kd.own, kd.nd, fun x y e => ?_, kd.w1, kd.w2, kd.lon⟩
  · try dsimp only
    split
    · rename_i e2; subst e2; rw [hZ] at e; cases e
    · exact e
  · try dsimp only at e
    split at e
    · rename_i e2; subst e2; cases e
      exact ⟨hcs, hbO, fun cs' c e => let ⟨fl, h1⟩ := hcl cs' c e; ⟨x, fl, h1, hbO⟩⟩
    · exact kd.z x y e
theorem cells_row {h : Heap} {b : Nat} {cs : List Value} (e : h.get b = some (.row cs none)) : h.cells b = some cs := by unfold Heap.cells; rw [e]
theorem cells_cls {h : Heap} {b c t fl : Nat} {cs : List Value} (e : h.get b = some (.row cs (some c))) (ec : h.cl c = some (t, fl)) (hf : fl ≤ b) : h.cells b = some cs := by
  unfold Heap.cells
  simp only [e, ec, if_pos hf]
theorem Mem.freezeArr {lo : Nat} {Z : Vw} {v : Value} {e c : Nat} {xs : List (List Value)} {O : List Pt} {h : Heap} (k : Mem lo Z (.arr v e c xs :: O) h) : ∃ Z' : Vw, Z.le Z' ∧ Fz Z' e v xs ∧ Mem lo Z' O h := by
  obtain ⟨b, sp, rfl, h1, h2, h3, h4, h5⟩ := k.own _ List.mem_cons_self
  obtain ⟨Z', q1, q2, q3⟩ := k.freeze (b := b) rfl (cells_row h2) (fun cs' c e => by rw [h2] at e; cases e)
  refine ⟨Z', q1, ⟨h5, .inr ⟨b, 0, none, c, _, rfl, h3, .inl rfl, q2, ?_, ?_⟩⟩, q3⟩
  · rw [List.length_append, flatten_len h5]; omega
  · rw [List.drop_zero, ← flatten_len h5, List.take_left]
theorem Mem.freezeGro {lo : Nat} {Z : Vw} {v : Value} {e : Nat} {xs : List (List Value)} {O : List Pt} {h : Heap} (k : Mem lo Z (.gro v e xs :: O) h) : ∃ Z' : Vw, Z.le Z' ∧ Fz Z' e v xs ∧ Mem lo Z' O h := by
  obtain ⟨h5, he, ⟨rfl, rfl⟩ | ⟨b, c, fl, rfl, h1, h2, h3, h4⟩⟩ := k.own _ List.mem_cons_self
  · exact ⟨Z, .refl _, Fz.nil _ _, k.drop⟩
  · obtain ⟨Z', q1, q2, q3⟩ := k.freeze (b := b) rfl (cells_cls h2 h3 h4) (fun cs' c' e => by rw [h2] at e; cases e; exact ⟨fl, h3⟩)
    refine ⟨Z', q1, ⟨h5, .inr ⟨b, 0, some e, _, _, rfl, Nat.le_refl _, .inr rfl, q2, ?_, ?_⟩⟩, q3⟩
    · rw [flatten_len h5]; omega
    · rw [List.drop_zero, ← flatten_len h5, List.take_length]
/-! ### reading -/
theorem flat_at {e : Nat} : ∀ {xs : List (List Value)} {j : Nat} {x : List Value}, (∀ x ∈ xs, x.length = e) → xs[j]? = some x → (xs.flatten.drop (j * e)).take e = x
  | x0 :: xs, 0, x, h, hj => by
    simp only [List.getElem?_cons_zero, Option.some.injEq] at hj
    subst hj
    have h0 := h x0 (by simp)
    rw [List.flatten_cons, Nat.zero_mul, List.drop_zero, List.take_append_of_le_length (Nat.le_of_eq h0.symm), List.take_of_length_le (Nat.le_of_eq h0)]
  | x0 :: xs, j + 1, x, h, hj => by
    have h0 := h x0 (by simp)
    have e1 : (j + 1) * e - e = j * e := by rw [Nat.succ_mul]; omega
    rw [List.flatten_cons, List.drop_append, List.drop_of_length_le (by rw [h0, Nat.succ_mul]; omega), List.nil_append, h0, e1]
    exact flat_at (fun y hy => h y (by simp [hy])) (by simpa using hj)
theorem take_drop_sub {l l' : List Value} {o n k m : Nat} (h : (l.drop o).take n = l') (hk : k + m ≤ n) : (l.drop (o + k)).take m = (l'.drop k).take m := by
  subst h
  rw [List.drop_take, List.drop_drop, List.take_take, Nat.min_eq_left (by omega)]
theorem rd_of {h : Heap} {b o n : Nat} {cs : List Value} (hc : h.cells b = some cs) (hl : o + n ≤ cs.length) : h.rd b o n = some ((cs.drop o).take n) := by
  simp only [Heap.rd, hc, if_pos hl]
theorem rd1_of {h : Heap} {b o : Nat} {cs : List Value} {v : Value} (hc : h.cells b = some cs) (hv : cs[o]? = some v) : h.rd1 b o = some v := by simp only [Heap.rd1, hc, hv]
theorem rd1_rd {h : Heap} {b o n k : Nat} {x : List Value} {v : Value} (hr : h.rd b o n = some x) (hv : x[k]? = some v) : h.rd1 b (o + k) = some v := by
  unfold Heap.rd at hr
  split at hr
  · rename_i cs hc
    split at hr
    · cases hr
      refine rd1_of hc ?_
      rw [List.getElem?_take] at hv
      split at hv
      · rwa [List.getElem?_drop] at hv
      · cases hv
    · cases hr
  · cases hr
theorem rd_rd {h : Heap} {b o n k m : Nat} {x : List Value} (hr : h.rd b o n = some x) (hk : k + m ≤ n) : h.rd b (o + k) m = some ((x.drop k).take m) := by
  unfold Heap.rd at hr
  split at hr
  · rename_i cs hc
    split at hr
    · cases hr
      rw [rd_of hc (by omega), take_drop_sub rfl hk]
    · cases hr
  · cases hr
/-- The elements of a slice, of whatever kind, as H reads them. -/
def Reads (h : Heap) (e : Nat) (v : Value) (xs : List (List Value)) : Prop :=
  (∀ x ∈ xs, x.length = e) ∧ ∃ a c, v = .slice a xs.length c ∧ (xs ≠ [] → ∃ s, a = some ⟨bb v, oo v, s⟩ ∧ h.rd (bb v) (oo v) (xs.length * e) = some xs.flatten)
theorem Reads.at {h : Heap} {e : Nat} {v : Value} {xs : List (List Value)} (k : Reads h e v xs) {j : Nat} {x : List Value} (hj : xs[j]? = some x) : (∃ s c, v = .slice (some ⟨bb v, oo v, s⟩) xs.length c) ∧ j < xs.length ∧ x.length = e ∧ h.rd (bb v) (oo v + j * e) e = some x := by
  obtain ⟨k1, a, c, k2, k3⟩ := k
  have hjl : j < xs.length := by
    rcases Nat.lt_or_ge j xs.length with h | h
    · exact h
    · rw [List.getElem?_eq_none h] at hj; cases hj
  obtain ⟨s, rfl, hr⟩ := k3 (fun e => by subst e; simp at hjl)
  have hle : j * e + e ≤ xs.length * e := by rw [← Nat.succ_mul]; exact Nat.mul_le_mul_right _ hjl
  refine ⟨⟨s, c, k2⟩, hjl, k1 x (List.mem_of_getElem? hj), ?_⟩
  rw [rd_rd hr hle, flat_at k1 hj]
theorem reads_of {h : Heap} {b o n c e : Nat} {s : Option Nat} {cs : List Value} {xs : List (List Value)} (hn : n = xs.length) (hc : h.cells b = some cs) (hl : o + xs.length * e ≤ cs.length) (hf : (cs.drop o).take (xs.length * e) = xs.flatten) (hx : ∀ x ∈ xs, x.length = e) :
    Reads h e (.slice (some ⟨b, o, s⟩) n c) xs := by
  subst hn
  refine ⟨hx, _, _, rfl, fun _ => ⟨s, rfl, ?_⟩⟩
  show h.rd b o (xs.length * e) = _
  rw [rd_of hc hl, hf]
theorem Fz.reads {lo : Nat} {Z : Vw} {O : List Pt} {h : Heap} {e : Nat} {v : Value} {xs : List (List Value)} (k : Fz Z e v xs) (hm : Mem lo Z O h) : Reads h e v xs := by
  obtain ⟨hx, ⟨rfl, rfl⟩ | ⟨b, o, s, c, cs, rfl, h1, h2, h3, h4, h5⟩⟩ := k
  · exact ⟨hx, _, _, rfl, fun h => absurd rfl h⟩
  · exact reads_of rfl (hm.z b _ h3).1 h4 h5 hx
theorem arr_reads {lo : Nat} {Z : Vw} {O : List Pt} {h : Heap} {e c : Nat} {v : Value} {xs : List (List Value)} (hm : Mem lo Z O h) (ho : .arr v e c xs ∈ O) : Reads h e v xs := by
  obtain ⟨b, sp, rfl, h1, h2, h3, h4, h5⟩ := hm.own _ ho
  refine reads_of rfl (cells_row h2) ?_ ?_ h5
  · rw [List.length_append, flatten_len h5]; omega
  · rw [List.drop_zero, ← flatten_len h5, List.take_left]
theorem gro_reads {lo : Nat} {Z : Vw} {O : List Pt} {h : Heap} {e : Nat} {v : Value} {xs : List (List Value)} (hm : Mem lo Z O h) (ho : .gro v e xs ∈ O) : Reads h e v xs := by
  obtain ⟨h5, he, ⟨rfl, rfl⟩ | ⟨b, c, fl, rfl, h1, h2, h3, h4⟩⟩ := hm.own _ ho
  · exact ⟨h5, _, _, rfl, fun h => absurd rfl h⟩
  · refine reads_of rfl (cells_cls h2 h3 h4) ?_ ?_ h5
    · rw [flatten_len h5]; omega
    · rw [List.drop_zero, ← flatten_len h5, List.take_length]
/-! ### writing -/
theorem flat_set {e o : Nat} {vs sp : List Value} (ho : o + vs.length ≤ e) : ∀ {xs : List (List Value)} {k : Nat} {x : List Value}, (∀ x ∈ xs, x.length = e) → xs[k]? = some x →
    (xs.flatten ++ sp).take (k * e + o) ++ (vs ++ (xs.flatten ++ sp).drop (k * e + o + vs.length)) = (xs.set k (x.take o ++ (vs ++ x.drop (o + vs.length)))).flatten ++ sp
  | x0 :: xs, 0, x, h, hj => by
    simp only [List.getElem?_cons_zero, Option.some.injEq] at hj
    subst hj
    have h0 := h x0 (by simp)
    simp only [Nat.zero_mul, Nat.zero_add, List.flatten_cons, List.set_cons_zero, List.append_assoc]
    rw [List.take_append_of_le_length (by omega), List.drop_append_of_le_length (by omega)]
  | x0 :: xs, k + 1, x, h, hj => by
    have h0 := h x0 (by simp)
    have ih := flat_set (sp := sp) ho (xs := xs) (k := k) (x := x) (fun y hy => h y (by simp [hy])) (by simpa using hj)
    have e1 : (k + 1) * e + o = x0.length + (k * e + o) := by rw [h0, Nat.succ_mul]; omega
    rw [List.set_cons_succ, List.flatten_cons, List.flatten_cons, List.append_assoc, List.append_assoc, ← ih, e1, Nat.add_assoc, List.take_length_add_append, List.drop_length_add_append, List.append_assoc]
end Go.Proofs.Ytbjgnogcjglcoaa.Hm
