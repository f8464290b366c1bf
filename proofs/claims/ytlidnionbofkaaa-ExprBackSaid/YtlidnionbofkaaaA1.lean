import Derived.Orders
import Derived.Scope
import Derived.Laws.Sem
import Derived.Below
namespace Go.Proofs.Ytlidnionbofkaaa.Hm
noncomputable section
open Go
set_option linter.all false
inductive HB where
  | row (cells : List Value) (cls : Option Nat)
  | map (es : List (Value × Value × Nat)) (clock : Nat)
  | itr (m : Option Nat) (since : Nat) (seen : List Nat) (last : Nat)
structure Heap where
  bs : List HB
  n : Nat
  cs : List (Nat × Nat)
  m : Nat
noncomputable def atR {α : Type} (l : List α) : Nat → Option α :=
  List.rec (motive := fun _ => Nat → Option α) (fun _ => none) (fun x _ ih n => Nat.rec (some x) (fun m _ => ih m) n) l
theorem atR_eq {α : Type} : ∀ (l : List α) (n : Nat), atR l n = l[n]?
  | [], _ => rfl
  | _ :: _, 0 => rfl
  | x :: xs, n + 1 => by rw [List.getElem?_cons_succ, ← atR_eq xs n]; rfl
noncomputable def setR {α : Type} (l : List α) : Nat → α → (List α → List α) → List α :=
  List.rec (motive := fun _ => Nat → α → (List α → List α) → List α) (fun _ _ k => k []) (fun x xs ih n v k => Nat.rec (k (v :: xs)) (fun m _ => ih m v fun ys => k (x :: ys)) n) l
theorem setR_eq {α : Type} : ∀ (l : List α) (n : Nat) (v : α) (k : List α → List α), setR l n v k = k (l.set n v)
  | [], _, _, _ => by cases ‹Nat› <;> rfl
  | _ :: _, 0, _, _ => rfl
  | x :: xs, n + 1, v, k => by rw [List.set_cons_succ, ← setR_eq xs n v fun ys => k (x :: ys)]; rfl
noncomputable def Heap.get (h : Heap) (b : Nat) : Option HB := if b < h.n then atR h.bs (h.n - 1 - b) else none
theorem Heap.get_def (h : Heap) (b : Nat) : h.get b = if b < h.n then h.bs[h.n - 1 - b]? else none := by unfold Heap.get; rw [atR_eq]
def Heap.cl (h : Heap) (c : Nat) : Option (Nat × Nat) := if c < h.m then h.cs[h.m - 1 - c]? else none
noncomputable def setS {α : Type} (l : List α) (n : Nat) (v : α) : List α := setR l n v id
theorem setS_eq {α : Type} (l : List α) (n : Nat) (v : α) : setS l n v = l.set n v := setR_eq l n v id
def Heap.setB (h : Heap) (b : Nat) (x : HB) : Heap := { h with bs := setS h.bs (h.n - 1 - b) x }
def Heap.setC (h : Heap) (c : Nat) (x : Nat × Nat) : Heap := { h with cs := h.cs.set (h.m - 1 - c) x }
def Heap.cells (h : Heap) (b : Nat) : Option (List Value) :=
  match h.get b with
  | some (.row cs none) => some cs
  | some (.row cs (some c)) =>
    match h.cl c with
    | some (_, fl) => if fl ≤ b then some cs else none
    | none => none
  | _ => none
def Heap.put (lo : Nat) (h : Heap) (b : Nat) (cs : List Value) : Option Heap :=
  if b < lo then none else
  match h.get b with
  | some (.row _ none) => some (h.setB b (.row cs none))
  | some (.row _ (some c)) =>
    match h.cl c with
    | some (tip, _) => if tip = b then some ((h.setB b (.row cs (some c))).setC c (tip, b)) else none
    | none => none
  | _ => none
def Heap.rd (h : Heap) (b off n : Nat) : Option (List Value) :=
  match h.cells b with
  | some cs => if off + n ≤ cs.length then some ((cs.drop off).take n) else none
  | none => none
def Heap.rd1 (h : Heap) (b off : Nat) : Option Value :=
  match h.cells b with
  | some cs => cs[off]?
  | none => none
def forceL {α β : Type} : List α → (List α → β) → β
  | [], k => k []
  | x :: xs, k => forceL xs fun ys => k (x :: ys)
theorem forceL_eq {α β : Type} : ∀ (l : List α) (k : List α → β), forceL l k = k l
  | [], k => rfl
  | x :: xs, k => by rw [forceL, forceL_eq xs]
def Heap.wr (lo : Nat) (h : Heap) (b off : Nat) (vs : List Value) : Option Heap :=
  match h.cells b with
  | some cs => if off + vs.length ≤ cs.length then forceL (cs.take off ++ (vs ++ cs.drop (off + vs.length))) (h.put lo b) else none
  | none => none
theorem Heap.wr_def (lo : Nat) (h : Heap) (b off : Nat) (vs : List Value) : h.wr lo b off vs = match h.cells b with
  | some cs => if off + vs.length ≤ cs.length then h.put lo b (cs.take off ++ (vs ++ cs.drop (off + vs.length))) else none
  | none => none := by
  unfold Heap.wr
  simp only [forceL_eq]
def Heap.new (h : Heap) (cells : List Value) : Heap := { h with bs := .row cells none :: h.bs, n := h.n + 1 }
def Heap.newMap (h : Heap) : Heap := { h with bs := .map [] 0 :: h.bs, n := h.n + 1 }
def Heap.newC (h : Heap) (cells : List Value) : Heap :=
  { bs := .row cells (some h.m) :: h.bs, n := h.n + 1, cs := (h.n, 0) :: h.cs, m := h.m + 1 }
def Heap.extC (h : Heap) (c fl : Nat) (cells : List Value) : Heap :=
  { bs := .row cells (some c) :: h.bs, n := h.n + 1, cs := h.cs.set (h.m - 1 - c) (h.n, fl), m := h.m }
def plain0 : Value → Bool
  | .bool _ | .int _ _ | .string _ | .pointer none | .map none | .nilFunc | .nilIface | .slice none 0 0 => true
  | _ => false
def plainV : Value → Bool
  | .agg cs => cs.toList.all plain0
  | .tuple cs => cs.toList.all plain0
  | v => plain0 v
def okOp : Operand → Bool
  | .tmp _ => true
  | .const v => plainV v
  | .global _ => false
  | .func _ => true
def ev (σ : List Value) : Operand → Value
  | .tmp t => (atR σ t).getD undef
  | .const v => v
  | .func f => .func (.func f) #[] #[]
  | .global _ => undef
theorem ev_tmp (σ : List Value) (t : Nat) : ev σ (.tmp t) = σ.getD t undef := by show (atR σ t).getD undef = _; rw [atR_eq, List.getD_eq_getElem?_getD]
def pureRun : Sem Value → Option Value
  | .pure v => some v
  | _ => none
inductive PK where
  | int | bool | str
inductive NK where
  | slice | map | func | ptr | iface
def veq0 : PK → Value → Value → Option Bool
  | .bool, .bool a, .bool b => some (a == b)
  | .int, .int k a, .int k' b => if k = k' then some (a == b) else none
  | .str, .string a, .string b => some (decide (a.data.toList = b.data.toList))
  | _, _, _ => none
def nileq : NK → Value → Value → Option Bool
  | .slice, .slice none _ _, .slice b _ _ => some b.isNone
  | .slice, .slice (some _) _ _, .slice none _ _ => some false
  | .map, .map none, .map b => some b.isNone
  | .map, .map (some _), .map none => some false
  | .func, .nilFunc, .nilFunc => some true
  | .func, .nilFunc, .func _ _ _ | .func, .func _ _ _, .nilFunc => some false
  | .ptr, .pointer none, .pointer b => some b.isNone
  | .ptr, .pointer (some _), .pointer none => some false
  | .iface, .nilIface, .nilIface => some true
  | .iface, .nilIface, .iface _ _ | .iface, .iface _ _, .nilIface => some false
  | _, _, _ => none
def eqcells (xs ys : List Value) : List (Nat × PK) → Option Bool
  | [] => some true
  | o :: os =>
    match xs[o.1]?, ys[o.1]? with
    | some a, some b =>
      match veq0 o.2 a b with
      | some true => eqcells xs ys os
      | r => r
    | _, _ => none
inductive EqD where
  | prim (k : PK)
  | nil (k : NK)
  | cells (n : Nat) (offs : List (Nat × PK))
def eqv : EqD → Value → Value → Option Bool
  | .prim k, x, y => veq0 k x y
  | .nil k, x, y => nileq k x y
  | .cells n offs, .agg xs, .agg ys => if xs.toList.length = n ∧ ys.toList.length = n then eqcells xs.toList ys.toList offs else none
  | _, _, _ => none
def keyOk : EqD → Value → Bool
  | .prim k, x => (veq0 k x x).isSome
  | .cells n offs, .agg xs => xs.toList.length == n && offs.all fun o => match xs.toList[o.1]? with
    | some v => (veq0 o.2 v v).isSome
    | none => false
  | _, _ => false
def strOp (op : BinOp) (a b : ByteArray) : Option Value :=
  match op with
  | .eql => some (.bool (decide (a.data.toList = b.data.toList)))
  | .neq => some (.bool (!decide (a.data.toList = b.data.toList)))
  | op => pureRun (Op.stringOp op a b)
def bin (op : BinOp) (x y : Value) : Option Value :=
  match op, x, y with
  | .shl, .int k a, .int yk b | .shr, .int k a, .int yk b => pureRun (Op.shift op k a yk b)
  | _, .int k a, .int k' b =>
    if k ≠ k' then none else
    match op with
    | .add | .sub | .mul => pureRun (Op.intArith op k a b)
    | .quo | .rem => pureRun (Op.intDiv op k a b)
    | .and | .or | .xor | .andNot => pureRun (Op.intBits op k a b)
    | _ => pureRun (Op.intCmp op a b)
  | _, .string a, .string b => strOp op a b
  | _, _, _ => none
def cellsV : Value → Option (List Value)
  | .agg cs => some cs.toList
  | .tuple _ => none
  | v => some [v]
def fillL : List Value → List (Nat × Nat × Value) → Option (List Value)
  | cs, [] => some cs
  | cs, (off, size, v) :: rest =>
    match cellsV v with
    | some vs => if vs.length = size ∧ off + size ≤ cs.length then fillL (cs.take off ++ (vs ++ cs.drop (off + size))) rest else none
    | none => none
def seen (x : Option Value) (d : Nat) : Option Nat :=
  match x with
  | none => some d
  | some (.int _ i) => if 0 ≤ i then some i.toNat else none
  | some _ => none
def findL (d : EqD) (k : Value) : List (Value × Value × Nat) → Nat → Option (Option (Nat × Value))
  | [], _ => some none
  | (k', v, _) :: es, i =>
    match eqv d k k' with
    | some true => some (some (i, v))
    | some false => findL d k es (i + 1)
    | none => none
inductive HOp where
  | mv (x : Operand)
  | pick (c a b : Operand)
  | alloc (zero : List Value)
  | box (x : Operand)
  | build (zero : List Value) (parts : List (Nat × Nat × Operand))
  | bslice (esz len : Nat) (zero : List Value) (parts : List (Nat × Operand))
  | load (agg : Option Nat) (a : Operand)
  | store (size : Nat) (a x : Operand)
  | nilchk (x : Operand)
  | bin (op : BinOp) (x y : Operand)
  | eq (neg : Bool) (d : EqD) (x y : Operand)
  | un (op : UnOp) (x : Operand)
  | convI (k : IntKind) (x : Operand)
  | slice (esz : Nat) (x : Operand) (lo hi mx : Option Operand)
  | slicea (n esz : Nat) (x : Operand) (lo hi mx : Option Operand)
  | slices (x : Operand) (lo hi : Option Operand)
  | faddr (off : Nat) (x : Operand)
  | field (off : Nat) (agg : Option Nat) (x : Operand)
  | iaddr (esz : Nat) (x i : Operand)
  | iaddra (n esz : Nat) (x i : Operand)
  | index (n esz : Nat) (agg : Option Nat) (x i : Operand)
  | indexs (x i : Operand)
  | lookup (d : EqD) (zero : Value) (m k : Operand) (ok : Bool)
  | mput (d : EqD) (m k x : Operand)
  | mkmap
  | lenm (x : Operand)
  | extract (x : Operand) (i : Nat)
  | mkfunc (f : Nat) (first captured : List Operand)
  | append (esz bytes : Nat) (s x : Operand)
  | mkslice (esz bytes : Nat) (zero : List Value) (l c : Operand)
  | len (x : Operand)
  | lens (x : Operand)
  | lena (n : Nat) (x : Operand)
  | call (f : Operand) (args : List Operand)
  | add64 (f x y z : Operand)
  | mm (mx : Bool) (x y : Operand)
  | clr (zero : List Value) (x : Operand)
  | runeS (x : Operand)
  | mkif (t : Nat) (x : Operand)
  | tassert (t : Nat) (zero : Value) (ok : Bool) (x : Operand)
  | pan (x : Operand)
  | rng (x : Operand)
  | nxt (x : Operand)
  | clrm (x : Operand)
  | no (ts : List Nat)
structure HOper where
  dst : Option Nat
  op : HOp
  guard : Option (Nat × Bool)
inductive HC where
  | skip | ret
  | exit (id : Nat)
  | seq (a b : HC)
  | cond (c : Operand) (a b : HC)
  | block (id : Nat) (c : HC)
  | loop (c : HC)
  | rgn (ops : List HOper)
  | drw (ops : List HOper) (sched : List (Nat × List Nat))
inductive Rv where
  | ret (v : Value)
  | pan (v : Value)
structure DFn where
  ntmps : Nat
  res : List (Nat × Option (Option Nat))
  pres : List HC
  tmp : Nat
  clo : Nat
  caps : List Operand
  post : HC
  dn : Nat
  drec : Nat
  dbody : HC
inductive SemK where
  | fn (s : Nat → List Value → Heap → (Rv → Heap → Prop) → Prop)
  | dfn (d : DFn)
structure HFn where
  ntmps : Nat
  res : List (Nat × Option (Option Nat))
  body : HC
  prim : Option (Nat → List Value → Heap → Option (Value × Heap)) := none
  sem : Option SemK := none
inductive Out where
  | nrm | ret
  | ext (id : Nat)
  | pan (v : Value)
def sliceOf (esz : Nat) (x : Value) (lo hi mx : Option Value) : Option Value :=
  match x with
  | .slice a len cap =>
    match seen mx cap with
    | none => none
    | some m =>
      if m ≤ cap then
        match seen hi len, seen lo 0 with
        | some h, some l =>
          if h ≤ m ∧ l ≤ h then
            match a with
            | none => some (.slice none 0 0)
            | some ⟨b, o, e⟩ =>
              match e with
              | none => some (.slice (some ⟨b, if m = l then o else o + l * esz, none⟩) (h - l) (m - l))
              | some z => if z = esz then
                  match mx with
                  | some _ => some (.slice (some ⟨b, if m = l then o else o + l * esz, none⟩) (h - l) (m - l))
                  | none => some (.slice (some ⟨b, o + l * esz, some z⟩) (h - l) (m - l))
                else none
          else none
        | _, _ => none
      else none
  | _ => none
def Heap.entries (h : Heap) : Value → Option (List (Value × Value × Nat))
  | .map none => some []
  | .map (some b) => match h.get b with
    | some (.map es _) => some es
    | _ => none
  | _ => none
def partOf (cs : List Value) (off : Nat) : Option Nat → Option Value
  | some n => if off + n ≤ cs.length then some (.agg ⟨(cs.drop off).take n⟩) else none
  | none => cs[off]?
def newCells (h : Heap) (esz : Nat) (x : Value) : Option (List Value × Nat) :=
  match x with
  | .slice none n _ => if n = 0 then some ([], 0) else none
  | .slice (some ⟨b, o, _⟩) n _ => if n = 0 then some ([], 0) else (h.rd b o (n * esz)).map (·, n)
  | _ => none
def appendOf (lo : Nat) (h : Heap) (esz bytes : Nat) (s x : Value) : Option (Value × Heap) :=
  match s, newCells h esz x with
  | .slice base len cap, some (new, n) =>
    let need := len + n
    if need ≤ cap then
      match base with
      | some ⟨b, o, _⟩ => if n = 0 then some (.slice base need cap, h) else (h.wr lo b (o + len * esz) new).map (.slice base need cap, ·)
      | none => if need = 0 then some (s, h) else none
    else if need * bytes ≤ 2 ^ 47 then
      let r : Value := .slice (some ⟨h.n, 0, some esz⟩) need need
      match base with
      | none => if len = 0 then some (r, h.newC new) else none
      | some ⟨b, o, none⟩ => match h.rd b o (len * esz) with
        | some old => some (r, h.newC (old ++ new))
        | none => none
      | some ⟨b, o, some e⟩ =>
        if e ≠ esz ∨ b < lo then none else
        match h.get b, h.rd b o (len * esz) with
        | some (.row cs (some c)), some old =>
          match h.cl c with
          | some (tip, fl) =>
            if tip = b then some (r, h.extC c (if o + len * esz = cs.length then fl else h.n) (old ++ new)) else none
          | none => none
        | _, _ => none
    else none
  | _, _ => none
def tassertV (t : Nat) (z : Value) (ok : Bool) : Value → Option Value
  | .nilIface => if ok then some (.tuple #[z, .bool false]) else none
  | .iface t' v => if t' = t then some (if ok then .tuple #[v, .bool true] else v) else if ok then some (.tuple #[z, .bool false]) else none
  | _ => none
def nextL (es : List (Value × Value × Nat)) (since : Nat) (seen : List Nat) (last : Nat) : Option (List (Option (Value × Value × Nat))) :=
  if !seen.isEmpty && !es.isEmpty && es.all (fun e => decide (e.2.2 ≥ last)) then none else
  let left := es.filter fun e => !seen.contains e.2.2
  let old := left.filter fun e => decide (e.2.2 < since)
  some ((if old.isEmpty then [none] else []) ++ (old ++ left.filter fun e => decide (e.2.2 ≥ since)).map some)
def nextOf (lo : Nat) (h : Heap) : Value → Option (List (Value × Heap))
  | .pointer (some ⟨b, 0, none⟩) => match h.get b with
    | some (.itr none _ _ _) => some [(.tuple #[.bool false], h)]
    | some (.itr (some m) since seen last) => if b < lo then none else match h.get m with
      | some (.map es clock) => (nextL es since seen last).map fun l => l.map fun
        | some (k, v, a) => (.tuple #[.bool true, k, v], h.setB b (.itr (some m) since (seen ++ [a]) clock))
        | none => (.tuple #[.bool false], h)
      | _ => none
    | _ => none
  | _ => none
def xopE (lo : Nat) (e : Operand → Value) (h : Heap) : HOp → Option (Value × Heap)
  | .mv x => some (e x, h)
  | .pick c a b => match e c with
    | .bool t => some (if t then e a else e b, h)
    | _ => none
  | .alloc z => some (.pointer (some ⟨h.n, 0, none⟩), h.new z)
  | .box x => match cellsV (e x) with
    | some cs => some (.pointer (some ⟨h.n, 0, none⟩), h.new cs)
    | none => none
  | .build z parts => match fillL z (parts.map fun p => (p.1, p.2.1, e p.2.2)) with
    | some cs => some (.agg ⟨cs⟩, h)
    | none => none
  | .bslice esz len z parts => match fillL (List.replicate len z).flatten (parts.map fun p => (p.1 * esz, esz, e p.2)) with
    | some cs => some (.slice (some ⟨h.n, 0, none⟩) len len, h.new cs)
    | none => none
  | .load agg a => match e a with
    | .pointer (some ⟨b, o, none⟩) => match agg with
      | none => (h.rd1 b o).map (·, h)
      | some n => (h.rd b o n).map fun cs => (.agg ⟨cs⟩, h)
    | _ => none
  | .store n a x => match e a with
    | .pointer (some ⟨b, o, none⟩) =>
      match cellsV (e x) with
      | some vs => if vs.length = n then (h.wr lo b o vs).map (undef, ·) else none
      | none => none
    | _ => none
  | .nilchk x => match e x with
    | .pointer (some a) => some (.pointer (some a), h)
    | _ => none
  | .bin op x y => (bin op (e x) (e y)).map (·, h)
  | .eq neg d x y => (eqv d (e x) (e y)).map fun b => (.bool (if neg then !b else b), h)
  | .un op x => (pureRun (Op.unary op (e x))).map (·, h)
  | .convI k x => match e x with
    | .int _ n => some (.int k (k.wrap n), h)
    | _ => none
  | .slice esz x l hi mx => (sliceOf esz (e x) (l.map e) (hi.map e) (mx.map e)).map (·, h)
  | .slicea n esz x l hi mx => match e x with
    | .pointer (some ⟨b, o, none⟩) => (sliceOf esz (.slice (some ⟨b, o, none⟩) n n) (l.map e) (hi.map e) (mx.map e)).map (·, h)
    | _ => none
  | .slices x l hi => match e x with
    | .string s => match seen (hi.map e) s.size, seen (l.map e) 0 with
      | some b, some a => if b ≤ s.size ∧ a ≤ b then some (.string ⟨⟨(s.data.toList.drop a).take (b - a)⟩⟩, h) else none
      | _, _ => none
    | _ => none
  | .faddr off x => match e x with
    | .pointer (some ⟨b, o, none⟩) => some (.pointer (some ⟨b, o + off, none⟩), h)
    | _ => none
  | .field off agg x => match e x with
    | .agg cs => (partOf cs.toList off agg).map (·, h)
    | _ => none
  | .iaddr esz x i => match e x, e i with
    | .slice (some ⟨b, o, _⟩) len _, .int _ j => if 0 ≤ j ∧ j < len then some (.pointer (some ⟨b, o + j.toNat * esz, none⟩), h) else none
    | _, _ => none
  | .iaddra n esz x i => match e x, e i with
    | .pointer (some ⟨b, o, none⟩), .int _ j => if 0 ≤ j ∧ j < n then some (.pointer (some ⟨b, o + j.toNat * esz, none⟩), h) else none
    | _, _ => none
  | .index n esz agg x i => match e x, e i with
    | .agg cs, .int _ j =>
      if 0 ≤ j ∧ j < n then
        (partOf cs.toList (j.toNat * esz) agg).map (·, h)
      else none
    | _, _ => none
  | .indexs x i => match e x, e i with
    | .string s, .int _ j => if 0 ≤ j then (s.data.toList[j.toNat]?).map fun c => (.int .u8 c.toNat, h) else none
    | _, _ => none
  | .lookup d zero m k ok =>
    match h.entries (e m) with
    | none => none
    | some es => if keyOk d (e k) then match findL d (e k) es 0 with
      | some (some (_, v)) => some (if ok then .tuple #[v, .bool true] else v, h)
      | some none => some (if ok then .tuple #[zero, .bool false] else zero, h)
      | none => none
      else none
  | .mput d m k x => match e m with
    | .map (some b) => if b < lo then none else match h.get b with
      | some (.map es t) => if keyOk d (e k) then match findL d (e k) es 0 with
        | some (some (i, _)) => match es[i]? with
          | some (_, _, t') => some (undef, h.setB b (.map (es.set i (e k, e x, t')) t))
          | none => none
        | some none => some (undef, h.setB b (.map (es ++ [(e k, e x, t)]) (t + 1)))
        | none => none
        else none
      | _ => none
    | _ => none
  | .mkmap => some (.map (some h.n), h.newMap)
  | .lenm x => match e x with
    | .map none => some (.int .i64 0, h)
    | .map (some b) => match h.get b with
      | some (.map es _) => some (.int .i64 es.length, h)
      | _ => none
    | _ => none
  | .extract x i => match e x with
    | .tuple vs => (vs.toList[i]?).map (·, h)
    | _ => none
  | .mkfunc f a c => some (.func (.func f) ⟨a.map e⟩ ⟨c.map e⟩, h)
  | .append esz bytes s x => appendOf lo h esz bytes (e s) (e x)
  | .mkslice esz bytes zero l c => match e l, e c with
    | .int _ l, .int _ c => if 0 ≤ l ∧ l ≤ c ∧ c * bytes ≤ 2 ^ 47 then some (.slice (some ⟨h.n, 0, none⟩) l.toNat c.toNat, h.new (List.replicate c.toNat zero).flatten) else none
    | _, _ => none
  | .len x => match e x with
    | .slice _ n _ => some (.int .i64 n, h)
    | _ => none
  | .lens x => match e x with
    | .string s => some (.int .i64 s.size, h)
    | _ => none
  | .lena n x => some (.int .i64 n, h)
  | .add64 _ x y z => match e x, e y, e z with
    | .int _ a, .int _ b, .int _ c => if c = 0 then some (.tuple #[.int .u64 (Int.ofNat ((a.toNat + b.toNat) % 18446744073709551616)), .int .u64 (Int.ofNat ((a.toNat + b.toNat) / 18446744073709551616))], h) else none
    | _, _, _ => none
  | .mm mx x y => match e x, e y with
    | .int k a, .int _ b => some (.int k (if mx = true then (if a < b then b else a) else if b < a then b else a), h)
    | _, _ => none
  | .clr zero x => match e x with
    | .slice none _ _ => some (.tuple #[], h)
    | .slice (some ⟨b, o, _⟩) n _ => if n = 0 then some (.tuple #[], h) else (h.wr lo b o (List.replicate n zero).flatten).map (.tuple #[], ·)
    | _ => none
  | .runeS x => match e x with
    | .int _ n => some (.string (Utf8.encode n), h)
    | _ => none
  | .mkif t x => some (.iface t (e x), h)
  | .tassert t z ok x => (tassertV t z ok (e x)).map (·, h)
  | .pan _ => none
  | .rng x => match e x with
    | .map none => some (.pointer (some ⟨h.n, 0, none⟩), { h with bs := .itr none 0 [] 0 :: h.bs, n := h.n + 1 })
    | .map (some b) => match h.get b with
      | some (.map _ t) => some (.pointer (some ⟨h.n, 0, none⟩), { h with bs := .itr (some b) t [] t :: h.bs, n := h.n + 1 })
      | _ => none
    | _ => none
  | .nxt x => match nextOf lo h (e x) with
    | some [r] => some r
    | _ => none
  | .clrm x => match e x with
    | .map none => some (.tuple #[], h)
    | .map (some b) => if b < lo then none else match h.get b with
      | some (.map _ t) => some (.tuple #[], h.setB b (.map [] t))
      | _ => none
    | _ => none
  | .call _ _ => none
  | .no _ => none
abbrev xop (lo : Nat) (σ : List Value) (h : Heap) (op : HOp) : Option (Value × Heap) := xopE lo (ev σ) h op
def callee (σ : List Value) (f : Operand) (args : List Operand) : Option (Nat × List Value) :=
  match ev σ f with
  | .func (.func k) first captured => some (k, (first.toList ++ args.map (ev σ)) ++ captured.toList)
  | _ => none
def xoper (call : Nat → List Value → Heap → Option (Value × Heap)) (lo : Nat) (σ : List Value) (h : Heap) : HOp → Option (Value × Heap)
  | .call f args => match callee σ f args with
    | some (k, vs) => call k vs h
    | none => none
  | o => xop lo σ h o
def putD (σ : List Value) (d : Option Nat) (v : Value) : List Value :=
  match d with
  | some t => setS σ t v
  | none => σ
def wantedH (σ : List Value) : Option (Nat × Bool) → Bool
  | none => true
  | some (t, b) => match atR σ t with
    | some (.bool c) => c == b
    | _ => false
def step1 (call : Nat → List Value → Heap → Option (Value × Heap)) (lo : Nat) (o : HOper) (σ : List Value) (h : Heap) : Option (List Value × Heap) :=
  if wantedH σ o.guard then
    match xoper call lo σ h o.op with
    | some (v, h') => some (putD σ o.dst v, h')
    | none => none
  else some (putD σ o.dst undef, h)
def rops (call : Nat → List Value → Heap → Option (Value × Heap)) (lo : Nat) : List HOper → List Value → Heap → Option (List Value × Heap)
  | [], σ, h => some (σ, h)
  | o :: os, σ, h => match step1 call lo o σ h with
    | some (σ', h') => rops call lo os σ' h'
    | none => none
def samePs : List Value → List Value → Bool
  | [], [] => true
  | .pointer a :: l, .pointer b :: m => decide (a = b) && samePs l m
  | _, _ => false
def same0 : Value → Value → Bool
  | .func (.func f) a c, .func (.func g) b d => decide (f = g) && (samePs a.toList b.toList && samePs c.toList d.toList)
  | .bool a, .bool b => a == b
  | .int k a, .int k' b => decide (k = k') && decide (a = b)
  | .string a, .string b => decide (a.data.toList = b.data.toList)
  | .pointer a, .pointer b => decide (a = b)
  | .slice a n c, .slice b m d => decide (a = b) && decide (n = m) && decide (c = d)
  | .map a, .map b => decide (a = b)
  | .nilFunc, .nilFunc => true
  | .nilIface, .nilIface => true
  | _, _ => false
def sameL : List Value → List Value → Bool
  | [], [] => true
  | a :: as, b :: bs => same0 a b && sameL as bs
  | _, _ => false
def sameV : Value → Value → Bool
  | .agg a, .agg b => sameL a.toList b.toList
  | .tuple a, .tuple b => sameL a.toList b.toList
  | a, b => same0 a b
def recheck (lo : Nat) (ops : List HOper) (σ : List Value) (h : Heap) : List Nat → Bool
  | [] => true
  | j :: js => (match atR ops j with
    | some o => if wantedH σ o.guard then
        (match o.dst, xop lo σ h o.op with
        | some d, some (v, _) => sameV (σ.getD d undef) v
        | _, _ => false)
      else true
    | none => false) && recheck lo ops σ h js
def drws (call : Nat → List Value → Heap → Option (Value × Heap)) (lo : Nat) (ops : List HOper) : List (Nat × List Nat) → List Value → Heap → Option (List Value × Heap)
  | [], σ, h => some (σ, h)
  | (i, js) :: rest, σ, h => match atR ops i with
    | some o => match step1 call lo o σ h with
      | some (σ', h') => if recheck lo ops σ' h' js then drws call lo ops rest σ' h' else none
      | none => none
    | none => none
def resOf (h : Heap) (σ : List Value) (r : Nat × Option (Option Nat)) : Option Value :=
  match r.2 with
  | none => some (σ.getD r.1 undef)
  | some agg => match σ.getD r.1 undef with
    | .pointer (some ⟨b, o, none⟩) => match agg with
      | none => h.rd1 b o
      | some n => (h.rd b o n).map fun cs => .agg ⟨cs⟩
    | _ => none
def ress (h : Heap) (σ : List Value) : List (Nat × Option (Option Nat)) → Option (List Value)
  | [] => some []
  | r :: rs => match resOf h σ r, ress h σ rs with
    | some v, some vs => some (v :: vs)
    | _, _ => none
def tupled : List Value → Value
  | [v] => v
  | vs => .tuple ⟨vs⟩
def run (F : Nat → Option HFn) (lo : Nat) : Nat → HC → List Value → Heap → Option (Out × List Value × Heap)
  | 0, _, _, _ => none
  | n + 1, c, σ, h =>
    let call : Nat → List Value → Heap → Option (Value × Heap) := fun f vs h =>
      match F f with
      | none => none
      | some fn =>
        match fn.sem with
        | some _ => none
        | none =>
        match fn.prim with
        | some p => p lo vs h
        | none =>
          match run F lo n fn.body (vs ++ List.replicate (fn.ntmps - vs.length) undef) h with
          | some (.ext _, _, _) => none
          | some (.pan _, _, _) => none
          | some (_, σ', h') => (ress h' σ' fn.res).map fun l => (tupled l, h')
          | none => none
    match c with
    | .skip => some (.nrm, σ, h)
    | .ret => some (.ret, σ, h)
    | .exit id => some (.ext id, σ, h)
    | .seq a b => match run F lo n a σ h with
      | some (.nrm, σ', h') => run F lo n b σ' h'
      | r => r
    | .cond c a b => match ev σ c with
      | .bool true => run F lo n a σ h
      | .bool false => run F lo n b σ h
      | _ => none
    | .block id c => match run F lo n c σ h with
      | some (.ext id', σ', h') => if id' = id then some (.nrm, σ', h') else some (.ext id', σ', h')
      | r => r
    | .loop c => match run F lo n c σ h with
      | some (.nrm, σ', h') => run F lo n (.loop c) σ' h'
      | r => r
    | .rgn ops => (rops call lo ops σ h).map fun p => (.nrm, p.1, p.2)
    | .drw ops sched => (drws call lo ops sched σ h).map fun p => (.nrm, p.1, p.2)
def hcall (F : Nat → Option HFn) (lo n : Nat) (f : Nat) (vs : List Value) (h : Heap) : Option (Value × Heap) :=
  match F f with
  | none => none
  | some fn =>
    match fn.sem with
    | some _ => none
    | none =>
    match fn.prim with
    | some p => p lo vs h
    | none =>
      match run F lo n fn.body (vs ++ List.replicate (fn.ntmps - vs.length) undef) h with
      | some (.ext _, _, _) => none
      | some (.pan _, _, _) => none
      | some (_, σ', h') => (ress h' σ' fn.res).map fun l => (tupled l, h')
      | none => none
def heap0 : Heap := ⟨[], 0, [], 0⟩
end
end Go.Proofs.Ytlidnionbofkaaa.Hm
namespace Go.Proofs.Ytlidnionbofkaaa.Hm
noncomputable section
open Go
set_option linter.all false
def sizeT (P : Program) (t : TypeId) : Option Nat := (P.info? t).map (·.size)
def bytesT (P : Program) (t : TypeId) : Option Nat := (P.info? t).map (·.bytes)
def zeroT (P : Program) (t : TypeId) : Option Value := (P.info? t).bind (·.zero)
def aggT (P : Program) (t : TypeId) : Option (Option Nat) :=
  match P.underlying t with
  | some (.struct _) | some (.array _ _) => (sizeT P t).map some
  | some _ => some none
  | none => none
def leavesF (P : Program) (f : TypeId → Nat → Option (List (Nat × PK))) (base size : Nat) : List Field → Option (List (Nat × PK))
  | [] => some []
  | x :: xs => if x.name = "_" then none else
    match sizeT P x.type with
    | some s => if x.offset + s ≤ size ∧ 0 < s then
        match f x.type (base + x.offset), leavesF P f base size xs with
        | some a, some b => some (a ++ b)
        | _, _ => none
      else none
    | none => none
def leavesA (f : Nat → Option (List (Nat × PK))) (base s : Nat) : Nat → Nat → Option (List (Nat × PK))
  | _, 0 => some []
  | i, n + 1 => match f (base + i * s), leavesA f base s (i + 1) n with
    | some a, some b => some (a ++ b)
    | _, _ => none
def leaves (P : Program) : Nat → TypeId → Nat → Option (List (Nat × PK))
  | 0, _, _ => none
  | d + 1, t, base =>
    match P.underlying t with
    | some .bool => some [(base, .bool)]
    | some (.int _) => some [(base, .int)]
    | some .string => some [(base, .str)]
    | some (.struct fs) => if P.stoodInHeld t then none else
      match sizeT P t with
      | some n => leavesF P (leaves P d) base n fs.toList
      | none => none
    | some (.array len elem) => match sizeT P elem, sizeT P t with
      | some s, some n => if len * s ≤ n ∧ 0 < s then leavesA (leaves P d elem) base s 0 len else none
      | _, _ => none
    | _ => none
def eqT (P : Program) (t : TypeId) : Option EqD :=
  match P.underlying t with
  | some .bool => some (.prim .bool)
  | some (.int _) => some (.prim .int)
  | some .string => some (.prim .str)
  | some (.slice _) => some (.nil .slice)
  | some (.map _ _) => some (.nil .map)
  | some (.func _ _ _) => some (.nil .func)
  | some (.pointer _) => some (.nil .ptr)
  | some (.interface _) => some (.nil .iface)
  | some (.struct _) | some (.array _ _) => if P.eqGuardType P.depth t then none else
    match sizeT P t, leaves P 20 t 0 with
    | some n, some l => some (.cells n l)
    | _, _ => none
  | _ => none
def isConst : Operand → Bool
  | .const _ => true
  | _ => false
def okEq : EqD → Operand → Operand → Bool
  | .nil .iface, x, y => isConst x || isConst y
  | _, _, _ => true
def eqTC (P : Program) (t : TypeId) (x y : Operand) : Option EqD := (eqT P t).bind fun d => if okEq d x y then some d else none
theorem eqTC_inv {P : Program} {t : TypeId} {x y : Operand} {d : EqD} (h : eqTC P t x y = some d) : eqT P t = some d ∧ okEq d x y = true := by
  unfold eqTC at h
  cases e : eqT P t with
  | none => rw [e] at h; cases h
  | some d' =>
    rw [e] at h
    simp only [Option.bind_some] at h
    split at h
    · rename_i ho; cases h; exact ⟨rfl, ho⟩
    · cases h
def keyT (P : Program) (t : TypeId) : Option EqD :=
  match eqT P t with
  | some (.prim k) => some (.prim k)
  | some (.cells n l) => if l.map (·.1) = List.range n then some (.cells n l) else none
  | _ => none
def partsL (f : Nat → Option (Nat × Nat)) : List (Nat × Operand) → Option (List (Nat × Nat × Operand))
  | [] => some []
  | (i, x) :: ps => match f i, partsL f ps with
    | some (o, s), some r => if okOp x then some ((o, s, x) :: r) else none
    | _, _ => none
def notTup : Value → Bool
  | .tuple _ => false
  | _ => true
def okOps (xs : List Operand) : Bool := xs.all okOp
def isAdd64 (P : Program) : Operand → Bool
  | .func f => match P.funcs[f]? with
    | some fn => fn.body.isNone && (fn.name == "math/bits.Add64" && fn.origin == "")
    | none => false
  | _ => false
def compOp (P : Program) (type : TypeId) : Op → Option HOp
  | .move x | .assign x => if okOp x then some (.mv x) else none
  | .pick c a b => if okOps [c, a, b] then some (.pick c a b) else none
  | .alloc t => match zeroT P t with
    | some z => if plainV z ∧ notTup z = true then some (.alloc z.cells.toList) else none
    | none => none
  | .box t x => if okOp x then some (.box x) else none
  | .build t parts => match zeroT P t with
    | none => none
    | some z => if plainV z ∧ notTup z = true then
        match P.underlying t with
        | some (.struct fs) => if !(fs.toList.all fun f => (sizeT P f.type).isSome) then none else (partsL (fun i => match fs[i]? with
            | some f => (sizeT P f.type).map (f.offset, ·)
            | none => none) parts.toList).map (.build z.cells.toList ·)
        | some (.array _ elem) => match sizeT P elem with
          | some s => (partsL (fun i => some (i * s, s)) parts.toList).map (.build z.cells.toList ·)
          | none => none
        | _ => none
      else none
  | .buildSlice t len parts => match P.underlying t with
    | some (.slice elem) => match sizeT P elem, zeroT P elem with
      | some s, some z => if plainV z ∧ notTup z = true ∧ z.cells.size = s ∧ 0 < s ∧ len * s ≤ 2 ^ 24 ∧ okOps (parts.toList.map (·.2)) then some (.bslice s len z.cells.toList parts.toList) else none
      | _, _ => none
    | _ => none
  | .load t a => if okOp a then match sizeT P t, aggT P t with
      | some _, some g => some (.load g a)
      | _, _ => none
    else none
  | .store t a x => if okOps [a, x] then (sizeT P t).map (.store · a x) else none
  | .nilCheck x => if okOp x then some (.nilchk x) else none
  | .binOp op xt x y _ => if okOps [x, y] then
      match op with
      | .eql => match P.underlying xt with
        | some (.int _) | some .string => some (.bin op x y)
        | _ => (eqTC P xt x y).map (.eq false · x y)
      | .neq => match P.underlying xt with
        | some (.int _) | some .string => some (.bin op x y)
        | _ => (eqTC P xt x y).map (.eq true · x y)
      | _ => some (.bin op x y)
    else none
  | .unOp op _ x => if okOp x then some (.un op x) else none
  | .convert s d x => if okOp x then
      match P.underlying s, P.underlying d with
      | some (.int _), some (.int k) => some (.convI k x)
      | some (.int _), some .string => some (.runeS x)
      | _, _ => none
    else none
  | .slice t x lo hi mx => if okOps (x :: (lo.toList ++ hi.toList ++ mx.toList)) && (mx.isNone || hi.isSome) then
      match P.underlying t with
      | some (.slice elem) => (sizeT P elem).map (.slice · x lo hi mx)
      | some (.array n elem) => (sizeT P elem).map (.slicea n · x lo hi mx)
      | some .string => if mx.isNone then some (.slices x lo hi) else none
      | _ => none
    else none
  | .fieldAddr s x f => if okOp x then
      match P.underlying s with
      | some (.struct fs) => match fs[f]? with
        | some f => match sizeT P f.type with
          | some n => if n = 0 then none else some (.faddr f.offset x)
          | none => none
        | none => none
      | _ => none
    else none
  | .field s x f => if okOp x then
      match P.underlying s with
      | some (.struct fs) => match fs[f]? with
        | some f => match sizeT P f.type, aggT P f.type with
          | some _, some g => some (.field f.offset g x)
          | _, _ => none
        | none => none
      | _ => none
    else none
  | .indexAddr t x i => if okOps [x, i] then
      match P.underlying t with
      | some (.slice elem) => (sizeT P elem).map (.iaddr · x i)
      | some (.array n elem) => (sizeT P elem).map (.iaddra n · x i)
      | _ => none
    else none
  | .index t x i => if okOps [x, i] then
      match P.underlying t with
      | some (.array n elem) => match sizeT P elem, aggT P elem with
        | some s, some g => some (.index n s g x i)
        | _, _ => none
      | some .string => some (.indexs x i)
      | _ => none
    else none
  | .lookup t m k ok => if okOps [m, k] then
      match P.underlying t with
      | some (.map kt et) => match keyT P kt, zeroT P et with
        | some d, some z => if plainV z then some (.lookup d z m k ok) else none
        | _, _ => none
      | _ => none
    else none
  | .mapUpdate t m k x | .insert t m k x => if okOps [m, k, x] then
      match P.underlying t with
      | some (.map kt _) => (keyT P kt).map (.mput · m k x)
      | _ => none
    else none
  | .makeMap t none => some .mkmap
  | .extract x i => if okOp x then some (.extract x i) else none
  | .makeFunc (.func f) a c => if okOps (a.toList ++ c.toList) then some (.mkfunc f a.toList c.toList) else none
  | .makeSlice t l c => if okOps [l, c] then
      match P.underlying t with
      | some (.slice elem) => match sizeT P elem, bytesT P elem, zeroT P elem with
        | some s, some b, some z => if plainV z ∧ z.cells.size = s ∧ 0 < s ∧ 0 < b ∧ notTup z = true then some (.mkslice s b z.cells.toList l c) else none
        | _, _, _ => none
      | _ => none
    else none
  | .call ⟨.builtin .append, args, ats⟩ => match args.toList, ats.toList with
    | [s, x], [st, xt] => if okOps [s, x] then
        match P.underlying st, P.underlying xt with
        | some (.slice elem), some (.slice _) => match sizeT P elem, bytesT P elem with
          | some z, some b => if 0 < z ∧ 0 < b ∧ ((zeroT P elem).any fun q => q.cells.size == z) = true then some (.append z b s x) else none
          | _, _ => none
        | _, _ => none
      else none
    | _, _ => none
  | .call ⟨.builtin .len, args, ats⟩ => match args.toList, ats.toList with
    | [x], [t] => if okOp x then
        match P.underlying t with
        | some .string => some (.lens x)
        | some (.slice _) => some (.len x)
        | some (.map _ _) => some (.lenm x)
        | some (.array n _) => some (.lena n x)
        | _ => none
      else none
    | _, _ => none
  | .call ⟨.builtin .min, args, _⟩ => match args.toList with
    | [x, y] => if okOps [x, y] then some (.mm false x y) else none
    | _ => none
  | .call ⟨.builtin .max, args, _⟩ => match args.toList with
    | [x, y] => if okOps [x, y] then some (.mm true x y) else none
    | _ => none
  | .call ⟨.builtin .clear, args, ats⟩ => match args.toList, ats.toList with
    | [x], [t] => if okOp x then
        match P.underlying t with
        | some (.slice elem) => match zeroT P elem with
          | some z => if plainV z ∧ notTup z = true ∧ 0 < z.cells.size then some (.clr z.cells.toList x) else none
          | none => none
        | some (.map _ _) => some (.clrm x)
        | _ => none
      else none
    | _, _ => none
  | .makeInterface t x => if okOp x then match P.underlying t with
      | some (.interface _) => none
      | some _ => some (.mkif t x)
      | none => none
    else none
  | .typeAssert x _ t ok => if okOp x then match P.underlying t with
      | some (.interface _) => none
      | some _ => match zeroT P t with
        | some z => if plainV z then some (.tassert t z ok x) else none
        | none => none
      | none => none
    else none
  | .panic x => if okOp x then some (.pan x) else none
  | .range t x => if okOp x then match P.underlying t with
      | some (.map _ _) => some (.rng x)
      | _ => none
    else none
  | .next x s => if okOp x && !s then some (.nxt x) else none
  | .call ⟨.value f, args, _⟩ => if okOps (f :: args.toList) then
      if isAdd64 P f then match args.toList with
        | [x, y, z] => some (.add64 f x y z)
        | _ => none
      else some (.call f args.toList)
    else none
  | _ => none
inductive Kd where
  | pur | lod | alc | eff
  deriving DecidableEq
def HOp.kd : HOp → Kd
  | .load _ _ | .lookup _ _ _ _ _ | .lenm _ => .lod
  | .alloc _ | .box _ | .bslice _ _ _ _ | .mkslice _ _ _ _ _ | .mkmap => .alc
  | .store _ _ _ | .mput _ _ _ _ | .append _ _ _ _ | .call _ _ | .clr _ _ | .no _ | .pan _ | .rng _ | .nxt _ | .clrm _ => .eff
  | _ => .pur
def tmps0 (xs : List Operand) : List Nat := xs.filterMap fun | .tmp t => some t | _ => none
def compOpN (P : Program) (type : TypeId) (op : Op) : Option HOp :=
  match compOp P type op with
  | some h => some h
  | none => match op with
    | .select _ _ => none
    | op => some (.no (tmps0 op.operands.toList))
def compOper (P : Program) (ops : Array Oper) (o : Oper) : Option HOper :=
  match compOpN P o.type o.op with
  | none => none
  | some op => match o.guard with
    | none => some ⟨o.dst, op, none⟩
    | some (j, b) => match (ops[j]?).bind (·.dst) with
      | some d => some ⟨o.dst, op, some (d, b)⟩
      | none => none
def compOps (P : Program) (ops : Array Oper) : List Oper → Option (List HOper)
  | [] => some []
  | o :: os => match compOper P ops o, compOps P ops os with
    | some a, some b => some (a :: b)
    | _, _ => none
def HOp.reads : HOp → List Operand
  | .mv x | .box x | .load _ x | .nilchk x | .un _ x | .convI _ x | .faddr _ x | .field _ _ x | .lenm x | .extract x _ | .len x | .lens x | .lena _ x | .clr _ x | .runeS x | .mkif _ x | .tassert _ _ _ x | .pan x | .rng x | .nxt x | .clrm x => [x]
  | .pick a b c => [a, b, c]
  | .alloc _ | .mkmap => []
  | .build _ ps => ps.map (·.2.2)
  | .bslice _ _ _ ps => ps.map (·.2)
  | .store _ a x | .bin _ a x | .eq _ _ a x | .iaddr _ a x | .iaddra _ _ a x | .index _ _ _ a x | .indexs a x | .append _ _ a x | .mkslice _ _ _ a x => [a, x]
  | .slice _ x a b c | .slicea _ _ x a b c => x :: (a.toList ++ b.toList ++ c.toList)
  | .slices x a b => x :: (a.toList ++ b.toList)
  | .lookup _ _ m k _ => [m, k]
  | .mput _ m k x => [m, k, x]
  | .mkfunc _ a c => a ++ c
  | .call f xs => f :: xs
  | .add64 f x y z => [f, x, y, z]
  | .mm _ x y => [x, y]
  | .no ts => ts.map .tmp
def tmpsOf (xs : List Operand) : List Nat := xs.filterMap fun | .tmp t => some t | _ => none
def HOper.names (o : HOper) : List Nat := tmpsOf o.op.reads ++ (match o.guard with | some (t, _) => [t] | none => [])
def onsOf (o : Oper) : List Nat := o.after.toList.filterMap fun e => if Region.binds .any e then some e.on else none
def befs (ops : List Oper) : List (List Nat) :=
  ops.foldl (fun acc o => acc ++ [((onsOf o) ++ (onsOf o).flatMap fun j => acc.getD j []).eraseDups]) []
def nameOf (ops : List HOper) (i : Nat) : List Nat := match ops[i]? with
  | some o => o.names
  | none => []
def dstOf (ops : List HOper) (i : Nat) : Option Nat := (ops[i]?).bind (·.dst)
def kdOf (ops : List HOper) (i : Nat) : Kd := match ops[i]? with
  | some o => o.op.kd
  | none => .eff
def isEff (ops : List HOper) (bef : List (List Nat)) (i : Nat) : Bool :=
  kdOf ops i == .eff || (match dstOf ops i with
    | some d => (nameOf ops i).contains d || (List.range ops.length).any fun j => j != i && (nameOf ops j).contains d && !((bef.getD j []).contains i)
    | none => false)
def early (effs : List Bool) (bef : List (List Nat)) : Nat → List Nat → List Nat → List Nat
  | 0, _, acc => acc.reverse
  | f + 1, left, acc =>
    match left.find? fun i => !(effs.getD i true) && (bef.getD i []).all acc.contains with
    | some i => early effs bef f (left.filter (· != i)) (i :: acc)
    | none => match left.find? fun i => (bef.getD i []).all acc.contains with
      | some i => early effs bef f (left.filter (· != i)) (i :: acc)
      | none => acc.reverse
def effsOf (ops : List HOper) (bef : List (List Nat)) : List Bool := (List.range ops.length).map (isEff ops bef)
def schedOf (ops : List HOper) (bef : List (List Nat)) : List (Nat × List Nat) :=
  let effs := effsOf ops bef
  let ord := early effs bef (2 * ops.length + 1) (List.range ops.length) []
  (ord.zipIdx).map fun (i, p) =>
    (i, if effs.getD i true then (ord.take p).filter fun j => kdOf ops j == .lod && !((bef.getD i []).contains j) else [])
def schedOK (ops : List Oper) (l : List HOper) (bef : List (List Nat)) (effs : List Bool) : List Nat → List (Nat × List Nat) → Bool
  | done, [] => (List.range l.length).all done.contains
  | done, (i, js) :: rest =>
    i < l.length && !(done.contains i) && (bef.getD i []).all done.contains &&
    (effs.getD i true || (js.isEmpty && kdOf l i != .eff && !((nameOf l i).any fun t => dstOf l i == some t))) &&
    (!(effs.getD i true) || (rest.all fun p => (bef.getD p.1 []).contains i)) &&
    (!(effs.getD i true) || (done.all fun j => kdOf l j != .lod || effs.getD j true || (bef.getD i []).contains j || js.contains j)) &&
    schedOK ops l bef effs (i :: done) rest
def befOK (ops : List Oper) (bef : List (List Nat)) : Bool :=
  (List.range ops.length).all fun i => match ops[i]? with
    | some o => (onsOf o).all (fun j => (bef.getD i []).contains j && decide (j < i)) && (bef.getD i []).all fun j => (onsOf o).any fun k => k == j || (bef.getD k []).contains j
    | none => false
def namesOK (l : List HOper) (bef : List (List Nat)) (effs : List Bool) : Bool :=
  (List.range l.length).all fun i => (List.range l.length).all fun j => i == j || (match dstOf l j with
    | some d => dstOf l i != some d && (!((nameOf l i).contains d) || (bef.getD i []).contains j || ((bef.getD j []).contains i && effs.getD j true))
    | none => true)
def comp (P : Program) : Code → Option HC
  | .skip => some .skip
  | .label _ => some .skip
  | .ret => some .ret
  | .exit id => some (.exit id)
  | .seq a b => match comp P a, comp P b with
    | some x, some y => some (.seq x y)
    | _, _ => none
  | .cond c a b => if okOp c then match comp P a, comp P b with
      | some x, some y => some (.cond c x y)
      | _, _ => none
    else none
  | .block id c => (comp P c).map (.block id)
  | .loop c => (comp P c).map .loop
  | .scope c => comp P c
  | .region _ ops draw => match compOps P ops ops.toList with
    | none => none
    | some l => if draw then
        let bef := befs ops.toList
        let effs := effsOf l bef
        let sched := schedOf l bef
        if schedOK ops.toList l bef effs [] sched && befOK ops.toList bef && namesOK l bef effs then some (.drw l sched) else none
      else some (.rgn l)
  | _ => none
def compRes (P : Program) : List ResultVar → Option (List (Nat × Option (Option Nat)))
  | [] => some []
  | .tmp t :: rs => (compRes P rs).map ((t, none) :: ·)
  | .cell a t :: rs => match sizeT P t, aggT P t, compRes P rs with
    | some _, some g, some l => some ((a, some g) :: l)
    | _, _, _ => none
def compFn (P : Program) (k : Nat) : Option HFn :=
  match P.funcs[k]? with
  | none => none
  | some fn => if fn.name = "runtime.NumGoroutine" then none else
    match fn.body with
    | none => none
    | some c => match comp P c, compRes P fn.results.toList with
      | some b, some r => some { ntmps := fn.ntmps, res := r, body := b }
      | _, _ => none
end
end Go.Proofs.Ytlidnionbofkaaa.Hm
namespace Go.Proofs.Ytlidnionbofkaaa.Hm
noncomputable section
open Go Go.RowKit
set_option linter.all false
set_option linter.unusedSimpArgs false
theorem Heap.get_lt {h : Heap} {b : Nat} {x : HB} (e : h.get b = some x) : b < h.n := by
  rw [Heap.get_def] at e; split at e
  · assumption
  · cases e
theorem Heap.cl_lt {h : Heap} {c : Nat} {x : Nat × Nat} (e : h.cl c = some x) : c < h.m := by
  unfold Heap.cl at e; split at e
  · assumption
  · cases e
theorem Heap.get_push (h : Heap) (x : HB) (cs : List (Nat × Nat)) (m b : Nat) :
    (Heap.mk (x :: h.bs) (h.n + 1) cs m).get b = if b = h.n then some x else h.get b := by
  rw [Heap.get_def, Heap.get_def]
  by_cases e : b = h.n
  · subst e; simp
  · by_cases hlt : b < h.n
    · have h1 : h.n + 1 - 1 - b = (h.n - 1 - b) + 1 := by omega
      simp only [e, if_false, show b < h.n + 1 by omega, hlt, if_true, h1, List.getElem?_cons_succ]
    · simp [e, hlt, show ¬ b < h.n + 1 by omega]
theorem Heap.get_new (h : Heap) (cs : List Value) (b : Nat) : (h.new cs).get b = if b = h.n then some (.row cs none) else h.get b := Heap.get_push h _ _ _ b
theorem Heap.get_newMap (h : Heap) (b : Nat) : h.newMap.get b = if b = h.n then some (.map [] 0) else h.get b := Heap.get_push h _ _ _ b
theorem Heap.get_newC (h : Heap) (cs : List Value) (b : Nat) : (h.newC cs).get b = if b = h.n then some (.row cs (some h.m)) else h.get b := Heap.get_push h _ _ _ b
theorem Heap.cl_newC (h : Heap) (cs : List Value) (c : Nat) : (h.newC cs).cl c = if c = h.m then some (h.n, 0) else h.cl c := by
  unfold Heap.cl Heap.newC
  by_cases e : c = h.m
  · subst e; simp
  · by_cases hlt : c < h.m
    · have h1 : h.m + 1 - 1 - c = (h.m - 1 - c) + 1 := by omega
      simp only [e, if_false, show c < h.m + 1 by omega, hlt, if_true, h1, List.getElem?_cons_succ]
    · simp [e, hlt, show ¬ c < h.m + 1 by omega]
theorem Heap.get_extC (h : Heap) (c fl : Nat) (cs : List Value) (b : Nat) : (h.extC c fl cs).get b = if b = h.n then some (.row cs (some c)) else h.get b := Heap.get_push h _ _ _ b
theorem Heap.cl_set {h : Heap} {c : Nat} {y : Nat × Nat} (bs : List HB) (n : Nat) (e : h.cl c = some y) (x : Nat × Nat) (c' : Nat) :
    (Heap.mk bs n (h.cs.set (h.m - 1 - c) x) h.m).cl c' = if c' = c then some x else h.cl c' := by
  have hc := Heap.cl_lt e
  unfold Heap.cl at e ⊢
  simp only [hc, if_true] at e
  by_cases e' : c' = c
  · subst e'
    simp only [hc, if_true, List.getElem?_set_self']
    rw [e]; rfl
  · by_cases hlt : c' < h.m
    · have : h.m - 1 - c ≠ h.m - 1 - c' := by omega
      simp only [hlt, e', if_true, if_false, List.getElem?_set_ne this]
    · simp [hlt, e']
theorem Heap.cl_extC {h : Heap} {c : Nat} {y : Nat × Nat} (e : h.cl c = some y) (fl : Nat) (cs : List Value) (c' : Nat) :
    (h.extC c fl cs).cl c' = if c' = c then some (h.n, fl) else h.cl c' := Heap.cl_set _ _ e _ c'
theorem Heap.cl_setC {h : Heap} {c : Nat} {y : Nat × Nat} (e : h.cl c = some y) (x : Nat × Nat) (c' : Nat) :
    (h.setC c x).cl c' = if c' = c then some x else h.cl c' := Heap.cl_set _ _ e _ c'
theorem Heap.get_setC (h : Heap) (c : Nat) (x : Nat × Nat) (b : Nat) : (h.setC c x).get b = h.get b := rfl
theorem Heap.cl_setB (h : Heap) (b : Nat) (x : HB) (c : Nat) : (h.setB b x).cl c = h.cl c := rfl
theorem Heap.get_setB {h : Heap} {b : Nat} {y : HB} (e : h.get b = some y) (x : HB) (b' : Nat) : (h.setB b x).get b' = if b' = b then some x else h.get b' := by
  have hb := Heap.get_lt e
  rw [Heap.get_def] at e
  rw [Heap.get_def, Heap.get_def]
  unfold Heap.setB
  simp only [setS_eq]
  simp only [hb, if_true] at e
  by_cases e' : b' = b
  · subst e'
    simp only [hb, if_true, List.getElem?_set_self']
    rw [e]; rfl
  · by_cases hlt : b' < h.n
    · have : h.n - 1 - b ≠ h.n - 1 - b' := by omega
      simp only [hlt, e', if_true, if_false, List.getElem?_set_ne this]
    · simp [hlt, e']
theorem Heap.cells_some {h : Heap} {b : Nat} {cs : List Value} (e : h.cells b = some cs) :
    h.get b = some (.row cs none) ∨ ∃ c tip fl, h.get b = some (.row cs (some c)) ∧ h.cl c = some (tip, fl) ∧ fl ≤ b := by
  unfold Heap.cells at e
  split at e
  · cases e; left; assumption
  · rename_i cs' c hg
    split at e
    · rename_i fl hc
      split at e
      · cases e; right; exact ⟨c, _, _, hg, hc, by assumption⟩
      · cases e
    · cases e
  · cases e
theorem Heap.cells_congr {h h' : Heap} {b : Nat} (hg : h'.get b = h.get b) (hc : ∀ c cs, h.get b = some (.row cs (some c)) → h'.cl c = h.cl c) : h'.cells b = h.cells b := by
  unfold Heap.cells
  rw [hg]
  split
  · rfl
  · rename_i cs c e; rw [hc c cs e]
  · rfl
abbrev Rho := Nat → Option (Nat × Nat)
def rowSize (w : World) (r : Nat) : Nat := match w.heap[r]? with
  | some (.cells c _ _) => c.size
  | _ => 0
def cell1 : Value → Bool
  | .agg _ | .tuple _ => false
  | _ => true
inductive VR (ρ : Rho) (w : World) : Value → Value → Prop
  | bool (b : Bool) : VR ρ w (.bool b) (.bool b)
  | int (k : IntKind) (n : Int) : VR ρ w (.int k n) (.int k n)
  | str (s : ByteArray) : VR ρ w (.string s) (.string s)
  | nilp : VR ρ w (.pointer none) (.pointer none)
  | ptr (b r s o : Nat) (h : ρ b = some (r, s)) : VR ρ w (.pointer (some ⟨b, o, none⟩)) (.pointer (some ⟨r, s + o, none⟩))
  | nils : VR ρ w (.slice none 0 0) (.slice none 0 0)
  | sle (b r s o len cap : Nat) (h : ρ b = some (r, s)) : VR ρ w (.slice (some ⟨b, o, none⟩) len cap) (.slice (some ⟨r, s + o, none⟩) len cap)
  | sli (b r s o len cap cap' e : Nat) (h : ρ b = some (r, s)) (hc : cap ≤ cap') (hr : s + o + cap' * e ≤ rowSize w r) :
      VR ρ w (.slice (some ⟨b, o, some e⟩) len cap) (.slice (some ⟨r, s + o, none⟩) len cap')
  | slz (b o e r s o' : Nat) (h : ρ b = some (r, s)) : VR ρ w (.slice (some ⟨b, o, some e⟩) 0 0) (.slice (some ⟨r, o', none⟩) 0 0)
  | sez (b o : Nat) (a : Addr) : VR ρ w (.slice (some ⟨b, o, none⟩) 0 0) (.slice (some a) 0 0)
  | nilm : VR ρ w (.map none) (.map none)
  | map (b r : Nat) (h : ρ b = some (r, 0)) : VR ρ w (.map (some b)) (.map (some r))
  | nilf : VR ρ w .nilFunc .nilFunc
  | fn (f : Fn) (a a' c c' : Array Value) (ha : a.size = a'.size) (hc : c.size = c'.size)
      (hva : ∀ i, i < a.size → VR ρ w (a.getD i undef) (a'.getD i undef)) (hvc : ∀ i, i < c.size → VR ρ w (c.getD i undef) (c'.getD i undef)) :
      VR ρ w (.func f a c) (.func f a' c')
  | nili : VR ρ w .nilIface .nilIface
  | iface (t : TypeId) (v v' : Value) (h : VR ρ w v v') : VR ρ w (.iface t v) (.iface t v')
  | agg (a a' : Array Value) (ha : a.size = a'.size) (h1 : ∀ i, i < a.size → cell1 (a.getD i undef) = true)
      (hv : ∀ i, i < a.size → VR ρ w (a.getD i undef) (a'.getD i undef)) : VR ρ w (.agg a) (.agg a')
  | tup (a a' : Array Value) (ha : a.size = a'.size) (hv : ∀ i, i < a.size → VR ρ w (a.getD i undef) (a'.getD i undef)) : VR ρ w (.tuple a) (.tuple a')
theorem VR.mono {ρ ρ' : Rho} {w w' : World} (hρ : ∀ b x, ρ b = some x → ρ' b = some x) (hw : ∀ r, rowSize w r ≤ rowSize w' r) {v v' : Value} (h : VR ρ w v v') : VR ρ' w' v v' := by
  induction h with
  | bool b => exact .bool b
  | int k n => exact .int k n
  | str s => exact .str s
  | nilp => exact .nilp
  | ptr b r s o h => exact .ptr b r s o (hρ _ _ h)
  | nils => exact .nils
  | sle b r s o len cap h => exact .sle b r s o len cap (hρ _ _ h)
  | sli b r s o len cap cap' e h hc hr => exact .sli b r s o len cap cap' e (hρ _ _ h) hc (Nat.le_trans hr (hw r))
  | slz b o e r s o' h => exact .slz b o e r s o' (hρ _ _ h)
  | sez b o a => exact .sez b o a
  | nilm => exact .nilm
  | map b r h => exact .map b r (hρ _ _ h)
  | nilf => exact .nilf
  | fn f a a' c c' ha hc hva hvc iha ihc => exact .fn f a a' c c' ha hc iha ihc
  | nili => exact .nili
  | iface t v v' h ih => exact .iface t v v' ih
  | agg a a' ha h1 hv ih => exact .agg a a' ha h1 ih
  | tup a a' ha hv ih => exact .tup a a' ha ih
def VRl (ρ : Rho) (w : World) (l l' : List Value) : Prop := l.length = l'.length ∧ ∀ i, i < l.length → VR ρ w (l.getD i undef) (l'.getD i undef)
theorem VRl.mono {ρ ρ' : Rho} {w w' : World} (hρ : ∀ b x, ρ b = some x → ρ' b = some x) (hw : ∀ r, rowSize w r ≤ rowSize w' r) {l l' : List Value} (h : VRl ρ w l l') : VRl ρ' w' l l' :=
  ⟨h.1, fun i hi => (h.2 i hi).mono hρ hw⟩
theorem VRl.nil (ρ : Rho) (w : World) : VRl ρ w [] [] := ⟨rfl, fun i hi => absurd hi (by simp)⟩
theorem VRl.cons {ρ : Rho} {w : World} {v v' : Value} {l l' : List Value} (h : VR ρ w v v') (hl : VRl ρ w l l') : VRl ρ w (v :: l) (v' :: l') :=
  ⟨by simp [hl.1], fun i hi => by cases i with
    | zero => simpa using h
    | succ i => simpa using hl.2 i (by simpa using hi)⟩
theorem VRl.append {ρ : Rho} {w : World} {a a' b b' : List Value} (h : VRl ρ w a a') (k : VRl ρ w b b') : VRl ρ w (a ++ b) (a' ++ b') := by
  refine ⟨by simp [h.1, k.1], fun i hi => ?_⟩
  by_cases hlt : i < a.length
  · have := h.2 i hlt
    simpa [List.getD_eq_getElem?_getD, List.getElem?_append_left hlt, List.getElem?_append_left (h.1 ▸ hlt)] using this
  · have hk := k.2 (i - a.length) (by simp at hi; omega)
    simp only [List.getD_eq_getElem?_getD] at hk ⊢
    rw [List.getElem?_append_right (by omega), List.getElem?_append_right (by rw [← h.1]; omega), ← h.1]
    exact hk
theorem VRl.drop {ρ : Rho} {w : World} {a a' : List Value} (h : VRl ρ w a a') (n : Nat) : VRl ρ w (a.drop n) (a'.drop n) := by
  refine ⟨by simp [h.1], fun i hi => ?_⟩
  have := h.2 (n + i) (by simp at hi; omega)
  simpa [List.getD_eq_getElem?_getD, List.getElem?_drop] using this
theorem VRl.take {ρ : Rho} {w : World} {a a' : List Value} (h : VRl ρ w a a') (n : Nat) : VRl ρ w (a.take n) (a'.take n) := by
  refine ⟨by simp [h.1], fun i hi => ?_⟩
  simp at hi
  have hn : i < n := by omega
  have := h.2 i (by omega)
  simpa [List.getD_eq_getElem?_getD, List.getElem?_take, hn] using this
theorem VRl.set {ρ : Rho} {w : World} {a a' : List Value} (h : VRl ρ w a a') (n : Nat) {v v' : Value} (hv : VR ρ w v v') : VRl ρ w (a.set n v) (a'.set n v') := by
  refine ⟨by simp [h.1], fun i hi => ?_⟩
  simp at hi
  have hk := h.2 i hi
  simp only [List.getD_eq_getElem?_getD, List.getElem?_set] at hk ⊢
  by_cases e : n = i
  · subst e
    simp only [if_true, hi, h.1 ▸ hi]
    simpa using hv
  · simpa only [e, if_false] using hk
theorem VRl.get {ρ : Rho} {w : World} {a a' : List Value} (h : VRl ρ w a a') {i : Nat} {v : Value} (hv : a[i]? = some v) : ∃ v', a'[i]? = some v' ∧ VR ρ w v v' := by
  have hi : i < a.length := by
    rcases Nat.lt_or_ge i a.length with h | h
    · exact h
    · rw [List.getElem?_eq_none h] at hv; cases hv
  have := h.2 i hi
  have hi' : i < a'.length := h.1 ▸ hi
  refine ⟨a'[i], by simp, ?_⟩
  simp only [List.getD_eq_getElem?_getD, hv, Option.getD_some, List.getElem?_eq_getElem hi'] at this
  exact this
theorem VRl.replicate {ρ : Rho} {w : World} {v v' : Value} (h : VR ρ w v v') : ∀ n, VRl ρ w (List.replicate n v) (List.replicate n v')
  | 0 => .nil ρ w
  | n + 1 => .cons h (VRl.replicate h n)
theorem VRl.getD {ρ : Rho} {w : World} {a a' : List Value} (h : VRl ρ w a a') (i : Nat) : VR ρ w (a.getD i undef) (a'.getD i undef) := by
  by_cases hi : i < a.length
  · exact h.2 i hi
  · have hi' : ¬ i < a'.length := h.1 ▸ hi
    simp only [List.getD_eq_getElem?_getD, List.getElem?_eq_none (Nat.le_of_not_lt hi), List.getElem?_eq_none (Nat.le_of_not_lt hi')]
    exact .tup _ _ rfl (fun i hi => absurd hi (by simp))
theorem VR.undef (ρ : Rho) (w : World) : VR ρ w undef undef := .tup _ _ rfl (fun i hi => absurd hi (by simp))
theorem getD_toList (a : Array Value) (i : Nat) : a.getD i undef = a.toList.getD i undef := by
  simp [Array.getD_eq_getD_getElem?, List.getD_eq_getElem?_getD]
theorem VR.aggL {ρ : Rho} {w : World} {a a' : Array Value} (h : VRl ρ w a.toList a'.toList) (h1 : ∀ v ∈ a.toList, cell1 v = true) : VR ρ w (.agg a) (.agg a') := by
  refine .agg a a' (by simpa using h.1) (fun i hi => ?_) (fun i hi => ?_)
  · rw [getD_toList]
    refine h1 _ ?_
    rw [List.getD_eq_getElem?_getD, List.getElem?_eq_getElem (by simpa using hi)]
    simp
  · rw [getD_toList, getD_toList]; exact h.2 i (by simpa using hi)
theorem VR.tupL {ρ : Rho} {w : World} {a a' : Array Value} (h : VRl ρ w a.toList a'.toList) : VR ρ w (.tuple a) (.tuple a') :=
  .tup a a' (by simpa using h.1) (fun i hi => by rw [getD_toList, getD_toList]; exact h.2 i (by simpa using hi))
theorem VR.of_agg {ρ : Rho} {w : World} {a : Array Value} {v : Value} (h : VR ρ w (.agg a) v) : ∃ a', v = .agg a' ∧ VRl ρ w a.toList a'.toList ∧ ∀ x ∈ a.toList, cell1 x = true := by
  cases h with
  | agg _ a' ha h1 hv =>
    refine ⟨a', rfl, ⟨by simpa using ha, fun i hi => ?_⟩, fun x hx => ?_⟩
    · have := hv i (by simpa using hi); rwa [getD_toList, getD_toList] at this
    · obtain ⟨i, hi, rfl⟩ := List.getElem_of_mem hx
      have := h1 i (by simpa using hi)
      rw [getD_toList, List.getD_eq_getElem?_getD, List.getElem?_eq_getElem hi] at this
      simpa using this
theorem VR.of_tuple {ρ : Rho} {w : World} {a : Array Value} {v : Value} (h : VR ρ w (.tuple a) v) : ∃ a', v = .tuple a' ∧ VRl ρ w a.toList a'.toList := by
  cases h with
  | tup _ a' ha hv =>
    refine ⟨a', rfl, ⟨by simpa using ha, fun i hi => ?_⟩⟩
    have := hv i (by simpa using hi); rwa [getD_toList, getD_toList] at this
theorem VR.plain0 {ρ : Rho} {w : World} {v : Value} (h : Hm.plain0 v = true) : VR ρ w v v ∧ cell1 v = true := by
  unfold Hm.plain0 at h
  split at h <;> first | exact ⟨.bool _, rfl⟩ | exact ⟨.int _ _, rfl⟩ | exact ⟨.str _, rfl⟩ | exact ⟨.nilp, rfl⟩ | exact ⟨.nilm, rfl⟩ | exact ⟨.nilf, rfl⟩ | exact ⟨.nili, rfl⟩ | exact ⟨.nils, rfl⟩ | cases h
theorem VRl.plain0 {ρ : Rho} {w : World} : ∀ {l : List Value}, l.all Hm.plain0 = true → VRl ρ w l l ∧ ∀ v ∈ l, cell1 v = true
  | [], _ => ⟨.nil ρ w, fun _ h => absurd h (by simp)⟩
  | v :: l, h => by
    simp only [List.all_cons, Bool.and_eq_true] at h
    obtain ⟨a, b⟩ := VRl.plain0 h.2
    obtain ⟨c, d⟩ := VR.plain0 (ρ := ρ) (w := w) h.1
    exact ⟨.cons c a, fun x hx => by cases hx with | head => exact d | tail _ hx => exact b x hx⟩
theorem VR.plainV {ρ : Rho} {w : World} {v : Value} (h : Hm.plainV v = true) : VR ρ w v v := by
  unfold Hm.plainV at h
  split at h
  · obtain ⟨a, b⟩ := VRl.plain0 (ρ := ρ) (w := w) h; exact .aggL a b
  · obtain ⟨a, b⟩ := VRl.plain0 (ρ := ρ) (w := w) h; exact .tupL a
  · exact (VR.plain0 h).1
theorem VR.cells {ρ : Rho} {w : World} {v v' : Value} {cs : List Value} (h : VR ρ w v v') (e : cellsV v = some cs) : VRl ρ w cs v'.cells.toList ∧ ∀ x ∈ cs, cell1 x = true := by
  unfold cellsV at e
  split at e
  · cases e
    obtain ⟨a', rfl, h1, h2⟩ := h.of_agg
    exact ⟨h1, h2⟩
  · cases e
  · rename_i hna hnt
    cases e
    have hc : v'.cells = #[v'] := by cases h <;> first | rfl | exact absurd rfl (hna _) | exact absurd rfl (hnt _)
    rw [hc]
    refine ⟨.cons h (.nil ρ w), fun x hx => ?_⟩
    simp only [List.mem_singleton] at hx
    subst hx
    cases x <;> first | rfl | exact absurd rfl (hna _) | exact absurd rfl (hnt _)
theorem VR.cell1 {ρ : Rho} {w : World} {v v' : Value} (h : VR ρ w v v') (e : Hm.cell1 v = true) : Hm.cell1 v' = true := by
  cases h <;> first | rfl | cases e
theorem plainV_cells {ρ : Rho} {w : World} {v : Value} (h : Hm.plainV v = true) (h2 : ∀ cs, v ≠ .tuple cs) : VRl ρ w v.cells.toList v.cells.toList ∧ ∀ x ∈ v.cells.toList, Hm.cell1 x = true := by
  have hc : cellsV v = some v.cells.toList := by cases v <;> first | rfl | exact absurd rfl (h2 _)
  exact (VR.plainV h).cells hc
end
end Go.Proofs.Ytlidnionbofkaaa.Hm
namespace Go.Proofs.Ytlidnionbofkaaa.Hm
noncomputable section
open Go Go.RowKit
set_option linter.all false
set_option linter.unusedSimpArgs false
def Heap.isItr (h : Heap) (b : Nat) : Prop := ∃ m t seen d, h.get b = some (.itr m t seen d)
def Heap.live (h : Heap) (b : Nat) : Prop := (∃ cs, h.cells b = some cs) ∨ ∃ es t, h.get b = some (.map es t)
structure Inv (lo n0 : Nat) (w0 : World) (ρ : Rho) (h : Heap) (w : World) : Prop where
  below : Below n0 w0 w
  n0le : n0 ≤ w0.heap.size
  lon : lo ≤ h.n
  dom : ∀ b r s, ρ b = some (r, s) → b < h.n ∧ r < w.heap.size
  new : ∀ b r s, ρ b = some (r, s) → lo ≤ b → n0 ≤ r
  row : ∀ b r s cs, ρ b = some (r, s) → h.cells b = some cs → ∃ c e fz, w.heap[r]? = some (.cells c e fz) ∧ (lo ≤ b → fz = (0, 0)) ∧ s + cs.length ≤ c.size ∧
    ∀ i, i < cs.length → VR ρ w (cs.getD i undef) (c.getD (s + i) undef) ∧ cell1 (cs.getD i undef) = true
  map : ∀ b r s es t, ρ b = some (r, s) → h.get b = some (.map es t) → ∃ es' : Array MapEntry, w.heap[r]? = some (.map es' t) ∧ es.length = es'.size ∧
    ∀ (i : Nat) (k v : Value) (a : Nat), es[i]? = some (k, v, a) → ∃ e : MapEntry, es'[i]? = some e ∧ VR ρ w k e.key ∧ VR ρ w v e.val ∧ e.born = a
  sep : ∀ b b' r s s', ρ b = some (r, s) → ρ b' = some (r, s') → b ≠ b' → (lo ≤ b ∨ lo ≤ b') → h.live b → h.live b' →
    ∃ c cs cs', h.get b = some (.row cs (some c)) ∧ h.get b' = some (.row cs' (some c))
  tip : ∀ b b' c cs cs' fl r s s', h.get b = some (.row cs (some c)) → h.cl c = some (b, fl) → ρ b = some (r, s) → ρ b' = some (r, s') →
    h.get b' = some (.row cs' (some c)) → fl ≤ b' → s' + cs'.length ≤ s + cs.length
  clt : ∀ b cs c t fl, h.get b = some (.row cs (some c)) → h.cl c = some (t, fl) → b ≤ t
  clm : ∀ b cs c, h.get b = some (.row cs (some c)) → ∃ x, h.cl c = some x
  itr : ∀ b r s m t seen d, ρ b = some (r, s) → h.get b = some (.itr m t seen d) → (lo ≤ b ∧ s = 0) ∧ ∃ m', w.heap[r]? = some (.mapIter m' t ⟨seen⟩ d) ∧ VR ρ w (.map m) (.map m')
  its : ∀ b b' r s s', ρ b = some (r, s) → ρ b' = some (r, s') → h.isItr b → h.isItr b' → b = b'
structure Ext (ρ ρ' : Rho) (h h' : Heap) (w w' : World) : Prop where
  le : ∀ b x, ρ b = some x → ρ' b = some x
  sz : ∀ r, rowSize w r ≤ rowSize w' r
  n : h.n ≤ h'.n
  keep : ∀ b, b < h.n → ρ b = none → ρ' b = none ∧ h'.get b = h.get b
theorem Ext.refl (ρ : Rho) (h : Heap) (w : World) : Ext ρ ρ h h w w := ⟨fun _ _ e => e, fun _ => Nat.le_refl _, Nat.le_refl _, fun _ _ e => ⟨e, rfl⟩⟩
theorem Ext.trans {ρ ρ' ρ'' : Rho} {h h' h'' : Heap} {w w' w'' : World} (a : Ext ρ ρ' h h' w w') (b : Ext ρ' ρ'' h' h'' w' w'') : Ext ρ ρ'' h h'' w w'' :=
  ⟨fun x y e => b.le _ _ (a.le _ _ e), fun r => Nat.le_trans (a.sz r) (b.sz r), Nat.le_trans a.n b.n, fun x hx e => by
    obtain ⟨e1, g1⟩ := a.keep x hx e
    obtain ⟨e2, g2⟩ := b.keep x (Nat.lt_of_lt_of_le hx a.n) e1
    exact ⟨e2, g2.trans g1⟩⟩
theorem Ext.vr {ρ ρ' : Rho} {h h' : Heap} {w w' : World} (a : Ext ρ ρ' h h' w w') {v v' : Value} (k : VR ρ w v v') : VR ρ' w' v v' := k.mono a.le a.sz
theorem Ext.vrl {ρ ρ' : Rho} {h h' : Heap} {w w' : World} (a : Ext ρ ρ' h h' w w') {v v' : List Value} (k : VRl ρ w v v') : VRl ρ' w' v v' := k.mono a.le a.sz
def Rho.set (ρ : Rho) (b r s : Nat) : Rho := fun x => if x = b then some (r, s) else ρ x
theorem rowSize_push (w : World) (o : Obj) (r : Nat) : rowSize w r ≤ rowSize (w.alloc o) r := by
  unfold rowSize
  show _ ≤ (match (w.heap.push o)[r]? with | some (.cells c _ _) => c.size | _ => 0)
  rw [Array.getElem?_push]
  by_cases e : r = w.heap.size
  · subst e; simp
  · rw [if_neg e]; exact Nat.le_refl _
theorem live_row {h : Heap} {b : Nat} {cs : List Value} (e : h.cells b = some cs) : h.live b := .inl ⟨cs, e⟩
theorem live_map {h : Heap} {b t : Nat} {es : List (Value × Value × Nat)} (e : h.get b = some (.map es t)) : h.live b := .inr ⟨es, t, e⟩
theorem cells_same {h h' : Heap} {b : Nat} (hg : h'.get b = h.get b) (hc : ∀ c, (∃ x, h.cl c = some x) → h'.cl c = h.cl c) {lo n0 : Nat} {w0 w : World} {ρ : Rho} (hI : Inv lo n0 w0 ρ h w) : h'.cells b = h.cells b :=
  Heap.cells_congr hg fun c cs e => hc c (hI.clm b cs c e)
section
variable {lo n0 : Nat} {w0 : World} {ρ : Rho} {h : Heap} {w : World}
theorem Inv.world (hI : Inv lo n0 w0 ρ h w) {w' : World} (hb : Below n0 w w') (hh : ∀ b r s, ρ b = some (r, s) → w'.heap[r]? = w.heap[r]?) (hsz : ∀ r, rowSize w r ≤ rowSize w' r) : Inv lo n0 w0 ρ h w' where
  below := hI.below.trans hb
  n0le := hI.n0le
  lon := hI.lon
  dom b r s e := ⟨(hI.dom b r s e).1, Nat.lt_of_lt_of_le (hI.dom b r s e).2 hb.size⟩
  new := hI.new
  row b r s cs e hc := by
    obtain ⟨c, e', fz, h1, h2, h3, h4⟩ := hI.row b r s cs e hc
    exact ⟨c, e', fz, (hh b r s e).trans h1, h2, h3, fun i hi => ⟨(h4 i hi).1.mono (fun _ _ x => x) hsz, (h4 i hi).2⟩⟩
  map b r s es t e hc := by
    obtain ⟨es', h1, h2, h3⟩ := hI.map b r s es t e hc
    exact ⟨es', (hh b r s e).trans h1, h2, fun i k v a hi => by
      obtain ⟨x, x1, x2, x3, x4⟩ := h3 i k v a hi
      exact ⟨x, x1, x2.mono (fun _ _ x => x) hsz, x3.mono (fun _ _ x => x) hsz, x4⟩⟩
  sep := hI.sep
  tip := hI.tip
  clt := hI.clt
  clm := hI.clm
  itr b r s m t seen d e hg := by
    obtain ⟨h1, m', h2, h3⟩ := hI.itr b r s m t seen d e hg
    exact ⟨h1, m', (hh b r s e).trans h2, h3.mono (fun _ _ x => x) hsz⟩
  its := hI.its
theorem Inv.drew (hI : Inv lo n0 w0 ρ h w) : Inv lo n0 w0 ρ h w.drew := hI.world (Below.refl _ _).drew (fun _ _ _ _ => rfl) (fun _ => Nat.le_refl _)
theorem Inv.push (hI : Inv lo n0 w0 ρ h w) {h' : Heap} (x : HB) (hn : h'.n = h.n + 1) (hg : ∀ b, h'.get b = if b = h.n then some x else h.get b) (hc : ∀ c, (∃ y, h.cl c = some y) → h'.cl c = h.cl c)
    (hx : ∀ cs c, x = .row cs (some c) → ∃ y, h'.cl c = some y ∧ h.n ≤ y.1) (hx2 : ∀ cs c, x = .row cs (some c) → h.cl c = none) : Inv lo n0 w0 ρ h' w := by
  have hlt : ∀ b r s, ρ b = some (r, s) → h'.get b = h.get b := fun b r s e => by rw [hg, if_neg (Nat.ne_of_lt (hI.dom b r s e).1)]
  have hcl : ∀ b r s, ρ b = some (r, s) → h'.cells b = h.cells b := fun b r s e => cells_same (hlt b r s e) hc hI
  have hlive : ∀ b r s, ρ b = some (r, s) → h'.live b → h.live b := fun b r s e hl => by
    rcases hl with ⟨cs, e'⟩ | ⟨es, t, e'⟩
    · exact .inl ⟨cs, (hcl b r s e) ▸ e'⟩
    · exact .inr ⟨es, t, (hlt b r s e) ▸ e'⟩
  refine ⟨hI.below, hI.n0le, by have := hI.lon; omega, fun b r s e => ⟨by have := (hI.dom b r s e).1; omega, (hI.dom b r s e).2⟩, hI.new, fun b r s cs e e' => hI.row b r s cs e ((hcl b r s e) ▸ e'),
    fun b r s es t e e' => hI.map b r s es t e ((hlt b r s e) ▸ e'), fun b b' r s s' e e' hne hlo hl hl' => ?_, fun b b' c cs cs' fl r s s' hgb hcb e e' hgb' hle => ?_, fun b cs c t fl hgb hcb => ?_, fun b cs c hgb => ?_,
    fun b r s m t seen d e e' => hI.itr b r s m t seen d e ((hlt b r s e) ▸ e'), fun b b' r s s' e e' i i' => hI.its b b' r s s' e e' (by unfold Heap.isItr at i ⊢; rw [hlt b r s e] at i; exact i) (by unfold Heap.isItr at i' ⊢; rw [hlt b' r s' e'] at i'; exact i')⟩
  · obtain ⟨c, cs, cs', h1, h2⟩ := hI.sep b b' r s s' e e' hne hlo (hlive b r s e hl) (hlive b' r s' e' hl')
    exact ⟨c, cs, cs', (hlt b r s e).trans h1, (hlt b' r s' e').trans h2⟩
  · rw [hlt b r s e] at hgb
    rw [hlt b' r s' e'] at hgb'
    rw [hc c (hI.clm b cs c hgb)] at hcb
    exact hI.tip b b' c cs cs' fl r s s' hgb hcb e e' hgb' hle
  · rw [hg] at hgb
    by_cases eb : b = h.n
    · simp only [eb, if_true, Option.some.injEq] at hgb
      obtain ⟨y, hy, hle⟩ := hx cs c hgb
      rw [hy] at hcb; cases hcb; simpa [eb] using hle
    · simp only [eb, if_false] at hgb
      rw [hc c (hI.clm b cs c hgb)] at hcb
      exact hI.clt b cs c t fl hgb hcb
  · rw [hg] at hgb
    by_cases eb : b = h.n
    · simp only [eb, if_true, Option.some.injEq] at hgb
      obtain ⟨y, hy, _⟩ := hx cs c hgb
      exact ⟨y, hy⟩
    · simp only [eb, if_false] at hgb
      obtain ⟨y, hy⟩ := hI.clm b cs c hgb
      exact ⟨y, (hc c ⟨y, hy⟩).trans hy⟩
theorem Inv.tell (hI : Inv lo n0 w0 ρ h w) {b : Nat} (hb : b < h.n) (hlo : lo ≤ b) (hρ : ρ b = none) (o : Obj)
    (hrow : ∀ cs, h.cells b = some cs → ∃ c e, o = .cells c e (0, 0) ∧ cs.length ≤ c.size ∧ ∀ i, i < cs.length → VR ρ w (cs.getD i undef) (c.getD i undef) ∧ cell1 (cs.getD i undef) = true)
    (hmap : ∀ es t, h.get b = some (.map es t) → es = [] ∧ o = .map #[] t)
    (hitr : ∀ m t seen d, h.get b = some (.itr m t seen d) → ∃ m', o = .mapIter m' t ⟨seen⟩ d ∧ VR ρ w (.map m) (.map m')) :
    Inv lo n0 w0 (Rho.set ρ b w.heap.size 0) h (w.alloc o) ∧ (∀ x y, ρ x = some y → (Rho.set ρ b w.heap.size 0) x = some y) ∧ (∀ r, rowSize w r ≤ rowSize (w.alloc o) r) ∧ (∀ x, x ≠ b → ρ x = none → (Rho.set ρ b w.heap.size 0) x = none) := by
  have hle : ∀ x y, ρ x = some y → (Rho.set ρ b w.heap.size 0) x = some y := fun x y e => by
    unfold Rho.set; split
    · rename_i e'; rw [e', hρ] at e; cases e
    · exact e
  have hsz := rowSize_push w o
  have hold : ∀ b' r s, ρ b' = some (r, s) → (w.alloc o).heap[r]? = w.heap[r]? := fun b' r s e => Below.heap_alloc _ _ _ (hI.dom b' r s e).2
  have hn0 : n0 ≤ w.heap.size := Nat.le_trans hI.n0le hI.below.size
  have hinv : ∀ b' r s, (Rho.set ρ b w.heap.size 0) b' = some (r, s) → (b' = b ∧ r = w.heap.size ∧ s = 0) ∨ (b' ≠ b ∧ ρ b' = some (r, s)) := fun b' r s e => by
    unfold Rho.set at e; split at e
    · cases e; exact .inl ⟨by assumption, rfl, rfl⟩
    · exact .inr ⟨by assumption, e⟩
  have hself : (w.alloc o).heap[w.heap.size]? = some o := by show (w.heap.push o)[w.heap.size]? = _; simp
  refine ⟨⟨hI.below.trans ((Below.refl _ _).alloc hn0 o), hI.n0le, hI.lon, fun b' r s e => ?_, fun b' r s e hl => ?_, fun b' r s cs e hc => ?_, fun b' r s es t e hc => ?_, fun b1 b2 r s s' e e' hne hlo2 hl hl' => ?_, fun b1 b2 c cs cs' fl r s s' hg1 hc1 e e' hg2 hle' => ?_, hI.clt, hI.clm, fun b' r s m t seen d e hg => ?_, fun b1 b2 r s s' e e' i1 i2 => ?_⟩,
    hle, hsz, fun x hx e => by unfold Rho.set; rw [if_neg hx]; exact e⟩
  · rcases hinv b' r s e with ⟨rfl, rfl, rfl⟩ | ⟨hne, e⟩
    · exact ⟨hb, by show _ < (w.heap.push o).size; simp⟩
    · exact ⟨(hI.dom b' r s e).1, by show _ < (w.heap.push o).size; have := (hI.dom b' r s e).2; simp; omega⟩
  · rcases hinv b' r s e with ⟨rfl, rfl, rfl⟩ | ⟨hne, e⟩
    · exact hn0
    · exact hI.new b' r s e hl
  · rcases hinv b' r s e with ⟨rfl, rfl, rfl⟩ | ⟨hne, e⟩
    · obtain ⟨c, el, rfl, h1, h2⟩ := hrow cs hc
      exact ⟨c, el, _, hself, fun _ => rfl, by simpa using h1, fun i hi => ⟨by simpa using (h2 i hi).1.mono hle hsz, (h2 i hi).2⟩⟩
    · obtain ⟨c, el, fz, h1, h2, h3, h4⟩ := hI.row b' r s cs e hc
      exact ⟨c, el, fz, (hold b' r s e).trans h1, h2, h3, fun i hi => ⟨(h4 i hi).1.mono hle hsz, (h4 i hi).2⟩⟩
  · rcases hinv b' r s e with ⟨rfl, rfl, rfl⟩ | ⟨hne, e⟩
    · obtain ⟨rfl, rfl⟩ := hmap es t hc
      exact ⟨#[], hself, rfl, fun i k v a hi => by simp at hi⟩
    · obtain ⟨es', h1, h2, h3⟩ := hI.map b' r s es t e hc
      exact ⟨es', (hold b' r s e).trans h1, h2, fun i k v a hi => by
        obtain ⟨x, x1, x2, x3, x4⟩ := h3 i k v a hi
        exact ⟨x, x1, x2.mono hle hsz, x3.mono hle hsz, x4⟩⟩
  · rcases hinv b1 r s e with ⟨rfl, rfl, rfl⟩ | ⟨hne1, e1⟩ <;> rcases hinv b2 _ s' e' with ⟨rfl, h1, rfl⟩ | ⟨hne2, e2⟩
    · exact absurd rfl hne
    · exact absurd (hI.dom b2 _ s' e2).2 (Nat.lt_irrefl _)
    · subst h1; exact absurd (hI.dom b1 _ s e1).2 (Nat.lt_irrefl _)
    · exact hI.sep b1 b2 r s s' e1 e2 hne hlo2 hl hl'
  · rcases hinv b1 r s e with ⟨rfl, rfl, rfl⟩ | ⟨hne1, e1⟩ <;> rcases hinv b2 _ s' e' with ⟨rfl, h1, rfl⟩ | ⟨hne2, e2⟩
    · rw [hg1] at hg2; cases hg2; exact Nat.le_refl _
    · exact absurd (hI.dom b2 _ s' e2).2 (Nat.lt_irrefl _)
    · subst h1; exact absurd (hI.dom b1 _ s e1).2 (Nat.lt_irrefl _)
    · exact hI.tip b1 b2 c cs cs' fl r s s' hg1 hc1 e1 e2 hg2 hle'
  · rcases hinv b' r s e with ⟨rfl, rfl, rfl⟩ | ⟨hne, e⟩
    · obtain ⟨m', h1, h2⟩ := hitr m t seen d hg
      subst h1
      exact ⟨⟨hlo, rfl⟩, m', hself, h2.mono hle hsz⟩
    · obtain ⟨h1, m', h2, h3⟩ := hI.itr b' r s m t seen d e hg
      exact ⟨h1, m', (hold b' r s e).trans h2, h3.mono hle hsz⟩
  · rcases hinv b1 r s e with ⟨rfl, rfl, rfl⟩ | ⟨hne1, e1⟩ <;> rcases hinv b2 _ s' e' with ⟨rfl, h1, rfl⟩ | ⟨hne2, e2⟩
    · rfl
    · exact absurd (hI.dom b2 _ s' e2).2 (Nat.lt_irrefl _)
    · subst h1; exact absurd (hI.dom b1 _ s e1).2 (Nat.lt_irrefl _)
    · exact hI.its b1 b2 r s s' e1 e2 i1 i2
end
end
end Go.Proofs.Ytlidnionbofkaaa.Hm
namespace Go.Proofs.Ytlidnionbofkaaa.Hm
noncomputable section
open Go Go.RowKit
set_option linter.all false
set_option linter.unusedSimpArgs false
def setRow (w : World) (r : Nat) (o : Obj) : World := { w with heap := w.heap.setIfInBounds r o }
theorem setRow_get (w : World) (r : Nat) (o : Obj) (k : Nat) : (setRow w r o).heap[k]? = if k = r ∧ r < w.heap.size then some o else w.heap[k]? := by
  show (w.heap.setIfInBounds r o)[k]? = _
  rw [Array.getElem?_setIfInBounds]
  by_cases e : r = k
  · subst e
    by_cases hlt : r < w.heap.size
    · simp [hlt]
    · simp [hlt]
  · have e' : ¬ k = r := fun h => e h.symm
    simp [e, e']
theorem setRow_setRow (w : World) (r : Nat) (o o' : Obj) : setRow (setRow w r o) r o' = setRow w r o' := by
  simp [setRow, Array.setIfInBounds_setIfInBounds]
theorem setRow_size (w : World) (r : Nat) (o : Obj) : (setRow w r o).heap.size = w.heap.size := by simp [setRow]
theorem lt_of_get {w : World} {r : Nat} {o : Obj} (h : w.heap[r]? = some o) : r < w.heap.size := by
  rcases Nat.lt_or_ge r w.heap.size with h' | h'
  · exact h'
  · rw [Array.getElem?_eq_none h'] at h; cases h
theorem setRow_self {w : World} {r : Nat} {o : Obj} (h : w.heap[r]? = some o) : setRow w r o = w := by
  unfold setRow
  congr 1
  apply Array.ext_getElem?
  intro i
  rw [Array.getElem?_setIfInBounds]
  split
  · rename_i e; subst e; rw [h, if_pos (lt_of_get h)]
  · rfl
theorem setCell_eq {w : World} {r o : Nat} {c : Array Value} {e : TypeId} {fz : Nat × Nat} (h : w.heap[r]? = some (.cells c e fz)) (v : Value) :
    w.setCell ⟨r, o, none⟩ v = setRow w r (.cells (c.setIfInBounds o v) e fz) := by
  unfold World.setCell setRow
  congr 1
  apply Array.ext_getElem?
  intro i
  rw [Array.getElem?_modify, Array.getElem?_setIfInBounds]
  by_cases ei : r = i
  · subst ei
    rw [if_pos rfl, if_pos rfl, h, if_pos (lt_of_get h)]
    rfl
  · rw [if_neg ei, if_neg ei]
theorem below_setRow {n0 : Nat} {w : World} {r : Nat} (h : n0 ≤ r) (o : Obj) : Below n0 w (setRow w r o) :=
  ⟨rfl, rfl, rfl, by simp [setRow], fun k hk => by rw [setRow_get, if_neg (by omega)]⟩
theorem rowSize_setRow {w : World} {r : Nat} {c c' : Array Value} {e e' : TypeId} {fz fz' : Nat × Nat} (h : w.heap[r]? = some (.cells c e fz)) (hs : c'.size = c.size) (k : Nat) :
    rowSize (setRow w r (.cells c' e' fz')) k = rowSize w k := by
  unfold rowSize
  rw [setRow_get]
  by_cases ek : k = r
  · subst ek; rw [if_pos ⟨rfl, lt_of_get h⟩, h]; exact hs
  · simp [ek]
theorem rowSize_setMap {w : World} {r : Nat} {es es' : Array MapEntry} {t t' : Nat} (h : w.heap[r]? = some (.map es t)) (k : Nat) :
    rowSize (setRow w r (.map es' t')) k = rowSize w k := by
  unfold rowSize
  rw [setRow_get]
  by_cases ek : k = r
  · subst ek; rw [if_pos ⟨rfl, lt_of_get h⟩, h]
  · simp [ek]
section
variable {lo n0 : Nat} {w0 : World} {ρ : Rho} {h : Heap} {w : World}
theorem put_spec {lo : Nat} {h h' : Heap} {b : Nat} {cs cs' : List Value} (hc : h.cells b = some cs) (hp : h.put lo b cs' = some h') : lo ≤ b ∧
    ((h.get b = some (.row cs none) ∧ h' = h.setB b (.row cs' none)) ∨ ∃ c fl, h.get b = some (.row cs (some c)) ∧ h.cl c = some (b, fl) ∧ fl ≤ b ∧ h' = (h.setB b (.row cs' (some c))).setC c (b, b)) := by
  unfold Heap.put at hp
  split at hp
  · cases hp
  · rename_i hlo
    refine ⟨Nat.le_of_not_lt hlo, ?_⟩
    rcases Heap.cells_some hc with hg | ⟨c, tip, fl, hg, hcl, hle⟩
    · rw [hg] at hp; cases hp; exact .inl ⟨hg, rfl⟩
    · rw [hg] at hp
      simp only [hcl] at hp
      split at hp
      · rename_i e; subst e; cases hp; exact .inr ⟨c, fl, hg, hcl, hle, rfl⟩
      · cases hp
theorem Inv.put (hI : Inv lo n0 w0 ρ h w) {b r s : Nat} {cs cs' : List Value} {h' : Heap} (hb : ρ b = some (r, s)) (hc : h.cells b = some cs) (hp : h.put lo b cs' = some h') (hl : cs'.length = cs.length)
    {c c' : Array Value} {e : TypeId} {fz : Nat × Nat} (hr : w.heap[r]? = some (.cells c e fz)) (hs : c'.size = c.size)
    (hv : ∀ i, i < cs'.length → VR ρ w (cs'.getD i undef) (c'.getD (s + i) undef) ∧ cell1 (cs'.getD i undef) = true) :
    Inv lo n0 w0 ρ h' (setRow w r (.cells c' e fz)) ∧ Ext ρ ρ h h' w (setRow w r (.cells c' e fz)) := by
  obtain ⟨hlo, hcase⟩ := put_spec hc hp
  have hsz : ∀ k, rowSize w k ≤ rowSize (setRow w r (.cells c' e fz)) k := fun k => Nat.le_of_eq (rowSize_setRow hr hs k).symm
  have hid : ∀ (b : Nat) x, ρ b = some x → ρ b = some x := fun _ _ x => x
  have hn0 : n0 ≤ r := hI.new b r s hb hlo
  have hrlt := lt_of_get hr
  obtain ⟨k, hget, hgb, hcl⟩ : ∃ k : Option Nat, (h.get b = some (.row cs k)) ∧ (∀ b', h'.get b' = if b' = b then some (.row cs' k) else h.get b') ∧
      (∀ c, (h'.cl c = h.cl c ∧ (k = some c → ∃ fl, h.cl c = some (b, fl) ∧ fl ≤ b ∧ False ∨ True)) ∨ (k = some c ∧ ∃ fl, h.cl c = some (b, fl) ∧ fl ≤ b ∧ h'.cl c = some (b, b))) := by
    rcases hcase with ⟨hg, rfl⟩ | ⟨c1, fl, hg, hcl, hle, rfl⟩
    · exact ⟨none, hg, fun b' => Heap.get_setB hg _ b', fun c => .inl ⟨Heap.cl_setB _ _ _ _, fun e => by cases e⟩⟩
    · refine ⟨some c1, hg, fun b' => by rw [Heap.get_setC]; exact Heap.get_setB hg _ b', fun c => ?_⟩
      have := Heap.cl_setC (h := h.setB b (.row cs' (some c1))) (c := c1) (y := (b, fl)) (by rw [Heap.cl_setB]; exact hcl) (b, b) c
      by_cases ec : c = c1
      · subst ec; right; exact ⟨rfl, fl, hcl, hle, by rw [this]; simp⟩
      · left; exact ⟨by rw [this, if_neg ec, Heap.cl_setB], fun _ => ⟨0, .inr trivial⟩⟩
  have hn : h'.n = h.n := by rcases hcase with ⟨_, rfl⟩ | ⟨_, _, _, _, _, rfl⟩ <;> rfl
  have hother : ∀ b' cs2, b' ≠ b → h'.cells b' = some cs2 → h.cells b' = some cs2 ∧ ∀ c2 cs3, h.get b' = some (.row cs3 (some c2)) → k ≠ some c2 := by
    intro b' cs2 hne h2
    have hg2 := hgb b'
    rw [if_neg hne] at hg2
    rcases Heap.cells_some h2 with hg | ⟨c2, t, fl, hg, hc2, hle⟩
    · rw [hg2] at hg
      refine ⟨by unfold Heap.cells; rw [hg], fun c2 cs3 h3 => by rw [hg] at h3; cases h3⟩
    · rw [hg2] at hg
      rcases hcl c2 with ⟨e1, _⟩ | ⟨e1, fl', e2, e3, e4⟩
      · refine ⟨by unfold Heap.cells; rw [hg]; simp only [← e1, hc2]; rw [if_pos hle], fun c3 cs3 h3 e5 => ?_⟩
        rw [hg] at h3; cases h3
        rcases hcase with ⟨hgx, _⟩ | ⟨c1, fl1, hgx, hclx, hlex, hh'⟩
        · rw [hget] at hgx; cases hgx; cases e5
        · rw [hget] at hgx; cases hgx; cases e5
          have : h'.cl c2 = some (b, b) := by
            rw [hh', Heap.cl_setC (y := (b, fl1)) (by rw [Heap.cl_setB]; exact hclx)]; simp
          rw [hc2] at this; cases this
          have h5 := hI.clt b' cs2 c2 b fl1 hg hclx
          omega
      · rw [e4] at hc2; cases hc2
        have h5 := hI.clt b' cs2 c2 b fl' hg e2
        omega
  have hlive : ∀ b', h'.live b' → h.live b' := by
    rintro b' (⟨cs2, h2⟩ | ⟨es, t, h2⟩)
    · by_cases eb : b' = b
      · subst eb; exact .inl ⟨cs, hc⟩
      · exact .inl ⟨cs2, (hother b' cs2 eb h2).1⟩
    · rw [hgb] at h2
      split at h2
      · cases h2
      · exact .inr ⟨es, t, h2⟩
  have hlive2 : ∀ b' cs3 c2, h'.live b' → b' ≠ b → h.get b' = some (.row cs3 (some c2)) → k ≠ some c2 := by
    rintro b' cs3 c2 (⟨cs2, h2⟩ | ⟨es, t, h2⟩) hne hg3
    · exact (hother b' cs2 hne h2).2 c2 cs3 hg3
    · rw [hgb, if_neg hne, hg3] at h2; cases h2
  have hheap : ∀ b' r' s', ρ b' = some (r', s') → b' ≠ b → h'.live b' → r' ≠ r := by
    intro b' r' s' e' hne hl er
    subst er
    obtain ⟨c2, cs2, cs3, h1, h2⟩ := hI.sep b b' r' s s' hb e' (fun x => hne x.symm) (.inl hlo) (.inl ⟨cs, hc⟩) (hlive b' hl)
    rw [hget] at h1; cases h1
    exact hlive2 b' cs3 c2 hl hne h2 rfl
  refine ⟨⟨hI.below.trans (below_setRow hn0 _), hI.n0le, hn ▸ hI.lon, fun b' r' s' e' => ⟨hn ▸ (hI.dom b' r' s' e').1, by rw [setRow_size]; exact (hI.dom b' r' s' e').2⟩, hI.new, fun b' r' s' cs2 e' hc2 => ?_, fun b' r' s' es t e' hg2 => ?_,
    fun b1 b2 r' s1 s2 e1 e2 hne hlo2 hl1 hl2 => ?_, fun b1 b2 c1 cs1 cs2 fl r' s1 s2 hg1 hc1 e1 e2 hg2 hle => ?_, fun b1 cs1 c1 t fl hg1 hc1 => ?_, fun b1 cs1 c1 hg1 => ?_, fun b' r' s' m t seen d e' hg2 => ?_, fun b1 b2 r' s1 s2 e1 e2 i1 i2 => ?_⟩, ⟨hid, hsz, Nat.le_of_eq hn.symm, fun x hx ex => ⟨ex, by rw [hgb, if_neg (fun e => by rw [e, hb] at ex; cases ex)]⟩⟩⟩
  · by_cases eb : b' = b
    · subst eb
      rw [hb] at e'; cases e'
      have hcs2 : cs2 = cs' := by
        rcases Heap.cells_some hc2 with hg | ⟨_, _, _, hg, _⟩ <;> (rw [hgb, if_pos rfl] at hg; cases hg; rfl)
      subst hcs2
      obtain ⟨c0, e0, fz0, h1, h2, h3, h4⟩ := hI.row b' r s cs hb hc
      rw [hr] at h1; cases h1
      exact ⟨c', e, fz, by rw [setRow_get]; simp [hrlt], h2, by rw [hs, hl]; exact h3, fun i hi => ⟨(hv i hi).1.mono hid hsz, (hv i hi).2⟩⟩
    · obtain ⟨c0, e0, fz0, h1, h2, h3, h4⟩ := hI.row b' r' s' cs2 e' (hother b' cs2 eb hc2).1
      refine ⟨c0, e0, fz0, ?_, h2, h3, fun i hi => ⟨(h4 i hi).1.mono hid hsz, (h4 i hi).2⟩⟩
      rw [setRow_get, if_neg (fun x => hheap b' r' s' e' eb (.inl ⟨cs2, hc2⟩) x.1)]; exact h1
  · have eb : b' ≠ b := fun eb => by rw [hgb, if_pos eb] at hg2; cases hg2
    have hg3 := hg2
    rw [hgb, if_neg eb] at hg3
    obtain ⟨es', h1, h2, h3⟩ := hI.map b' r' s' es t e' hg3
    refine ⟨es', ?_, h2, fun i k v a hi => ?_⟩
    · rw [setRow_get, if_neg (fun x => hheap b' r' s' e' eb (.inr ⟨es, t, hg2⟩) x.1)]; exact h1
    · obtain ⟨x, x1, x2, x3, x4⟩ := h3 i k v a hi
      exact ⟨x, x1, x2.mono hid hsz, x3.mono hid hsz, x4⟩
  · obtain ⟨c2, cs1, cs2, h1, h2⟩ := hI.sep b1 b2 r' s1 s2 e1 e2 hne hlo2 (hlive b1 hl1) (hlive b2 hl2)
    have key : ∀ bx csx, h.get bx = some (.row csx (some c2)) → ∃ csy, h'.get bx = some (.row csy (some c2)) := by
      intro bx csx hx
      rw [hgb]
      split
      · rename_i eb; subst eb; rw [hget] at hx; cases hx; exact ⟨cs', rfl⟩
      · exact ⟨csx, hx⟩
    obtain ⟨y1, k1⟩ := key b1 cs1 h1
    obtain ⟨y2, k2⟩ := key b2 cs2 h2
    exact ⟨c2, y1, y2, k1, k2⟩
  · have old : ∀ bx csx cx, h'.get bx = some (.row csx (some cx)) → ∃ csy, h.get bx = some (.row csy (some cx)) ∧ csy.length = csx.length := by
      intro bx csx cx hx
      rw [hgb] at hx
      split at hx
      · rename_i eb; subst eb; cases hx; exact ⟨cs, hget, hl.symm⟩
      · exact ⟨csx, hx, rfl⟩
    obtain ⟨y1, k1, l1⟩ := old b1 cs1 c1 hg1
    obtain ⟨y2, k2, l2⟩ := old b2 cs2 c1 hg2
    rw [← l1, ← l2]
    rcases hcl c1 with ⟨e3, _⟩ | ⟨e3, fl', e4, e5, e6⟩
    · exact hI.tip b1 b2 c1 y1 y2 fl r' s1 s2 k1 (e3 ▸ hc1) e1 e2 k2 hle
    · rw [e6] at hc1; cases hc1
      exact hI.tip b b2 c1 y1 y2 fl' r' s1 s2 k1 e4 e1 e2 k2 (Nat.le_trans e5 hle)
  · have old : ∃ csy, h.get b1 = some (.row csy (some c1)) := by
      rw [hgb] at hg1
      split at hg1
      · rename_i eb; subst eb; cases hg1; exact ⟨cs, hget⟩
      · exact ⟨cs1, hg1⟩
    obtain ⟨y1, k1⟩ := old
    rcases hcl c1 with ⟨e3, _⟩ | ⟨e3, fl', e4, e5, e6⟩
    · exact hI.clt b1 y1 c1 t fl k1 (e3 ▸ hc1)
    · rw [e6] at hc1; cases hc1; exact hI.clt b1 y1 c1 b fl' k1 e4
  · have old : ∃ csy, h.get b1 = some (.row csy (some c1)) := by
      rw [hgb] at hg1
      split at hg1
      · rename_i eb; subst eb; cases hg1; exact ⟨cs, hget⟩
      · exact ⟨cs1, hg1⟩
    obtain ⟨y1, k1⟩ := old
    obtain ⟨y, hy⟩ := hI.clm b1 y1 c1 k1
    rcases hcl c1 with ⟨e3, _⟩ | ⟨e3, fl', e4, e5, e6⟩
    · exact ⟨y, e3.trans hy⟩
    · exact ⟨_, e6⟩
  · rw [hgb] at hg2
    split at hg2
    · cases hg2
    · obtain ⟨h1, m', h2, h3⟩ := hI.itr b' r' s' m t seen d e' hg2
      exact ⟨h1, m', by rw [setRow_get, if_neg (fun x => by rw [x.1, hr] at h2; cases h2)]; exact h2, h3.mono hid hsz⟩
  · have old : ∀ bx, h'.isItr bx → h.isItr bx := by
      rintro bx ⟨m, t, seen, d, hx⟩
      rw [hgb] at hx
      split at hx
      · cases hx
      · exact ⟨m, t, seen, d, hx⟩
    exact hI.its b1 b2 r' s1 s2 e1 e2 (old _ i1) (old _ i2)
end
end
end Go.Proofs.Ytlidnionbofkaaa.Hm
namespace Go.Proofs.Ytlidnionbofkaaa.Hm
noncomputable section
open Go Go.RowKit
set_option linter.all false
set_option linter.unusedSimpArgs false
section
variable {lo n0 : Nat} {w0 : World} {ρ : Rho} {h : Heap} {w : World}
theorem Inv.grow (hI : Inv lo n0 w0 ρ h w) {b r s : Nat} {cs new : List Value} {cl fl fl' off : Nat} (hlo : lo ≤ b) (hb : ρ b = some (r, s)) (hg : h.get b = some (.row cs (some cl))) (hcl : h.cl cl = some (b, fl)) (hfl : fl ≤ b)
    {c c' : Array Value} {e : TypeId} (hr : w.heap[r]? = some (.cells c e (0, 0))) (hs : c'.size = c.size)
    (hend : (fl' = fl ∧ s + cs.length ≤ s + off + new.length ∧ ∀ j, j < s + cs.length → c'.getD j undef = c.getD j undef) ∨ fl' = h.n)
    (hsz' : s + off + new.length ≤ c.size)
    (hv : ∀ i, i < new.length → VR ρ w (new.getD i undef) (c'.getD (s + off + i) undef) ∧ cell1 (new.getD i undef) = true) :
    Inv lo n0 w0 (Rho.set ρ h.n r (s + off)) (h.extC cl fl' new) (setRow w r (.cells c' e (0, 0))) ∧ Ext ρ (Rho.set ρ h.n r (s + off)) h (h.extC cl fl' new) w (setRow w r (.cells c' e (0, 0))) := by
  have hsz : ∀ k, rowSize w k ≤ rowSize (setRow w r (.cells c' e (0, 0))) k := fun k => Nat.le_of_eq (rowSize_setRow hr hs k).symm
  have hnone : ρ h.n = none := by
    cases hx : ρ h.n with
    | none => rfl
    | some x => exact absurd (hI.dom h.n x.1 x.2 (by rw [hx])).1 (Nat.lt_irrefl _)
  have hle : ∀ x y, ρ x = some y → (Rho.set ρ h.n r (s + off)) x = some y := fun x y e => by
    unfold Rho.set; split
    · rename_i e'; rw [e', hnone] at e; cases e
    · exact e
  have hn0 : n0 ≤ r := hI.new b r s hb hlo
  have hrlt := lt_of_get hr
  have hblt := Heap.get_lt hg
  have hcb : h.cells b = some cs := by unfold Heap.cells; rw [hg]; simp only [hcl]; rw [if_pos hfl]
  have hget : ∀ x, (h.extC cl fl' new).get x = if x = h.n then some (.row new (some cl)) else h.get x := Heap.get_extC h cl fl' new
  have hcls : ∀ x, (h.extC cl fl' new).cl x = if x = cl then some (h.n, fl') else h.cl x := Heap.cl_extC hcl fl' new
  have hinv : ∀ x r' s', (Rho.set ρ h.n r (s + off)) x = some (r', s') → (x = h.n ∧ r' = r ∧ s' = s + off) ∨ (x ≠ h.n ∧ ρ x = some (r', s')) := fun x r' s' e => by
    unfold Rho.set at e; split at e
    · cases e; exact .inl ⟨by assumption, rfl, rfl⟩
    · exact .inr ⟨by assumption, e⟩
  have hother : ∀ x cs2, x ≠ h.n → (h.extC cl fl' new).cells x = some cs2 → h.cells x = some cs2 ∧ ((∃ cs3, h.get x = some (.row cs3 (some cl))) → fl' = fl) := by
    intro x cs2 hne h2
    rcases Heap.cells_some h2 with hg2 | ⟨c2, t, f2, hg2, hc2, hle2⟩ <;> rw [hget, if_neg hne] at hg2
    · exact ⟨by unfold Heap.cells; rw [hg2], fun ⟨cs3, h3⟩ => by rw [hg2] at h3; cases h3⟩
    · have hxlt := Heap.get_lt hg2
      rw [hcls] at hc2
      by_cases ec : c2 = cl
      · subst ec
        rw [if_pos rfl] at hc2; cases hc2
        rcases hend with ⟨h1, _⟩ | h1
        · subst h1
          exact ⟨by unfold Heap.cells; rw [hg2]; simp only [hcl]; rw [if_pos hle2], fun _ => rfl⟩
        · omega
      · rw [if_neg ec] at hc2
        exact ⟨by unfold Heap.cells; rw [hg2]; simp only [hc2]; rw [if_pos hle2], fun ⟨cs3, h3⟩ => by rw [hg2] at h3; cases h3; exact absurd rfl ec⟩
  have hlive : ∀ x, x ≠ h.n → (h.extC cl fl' new).live x → h.live x := by
    rintro x hne (⟨cs2, h2⟩ | ⟨es, t, h2⟩)
    · exact .inl ⟨cs2, (hother x cs2 hne h2).1⟩
    · rw [hget, if_neg hne] at h2; exact .inr ⟨es, t, h2⟩
  refine ⟨⟨hI.below.trans (below_setRow hn0 _), hI.n0le, by show lo ≤ h.n + 1; have := hI.lon; omega, fun x r' s' ex => ?_, fun x r' s' ex hx => ?_, fun x r' s' cs2 ex hc2 => ?_, fun x r' s' es t ex hg2 => ?_,
    fun b1 b2 r' s1 s2 e1 e2 hne hlo2 hl1 hl2 => ?_, fun b1 b2 c1 cs1 cs2 f1 r' s1 s2 hg1 hc1 e1 e2 hg2 hle' => ?_, fun b1 cs1 c1 t f1 hg1 hc1 => ?_, fun b1 cs1 c1 hg1 => ?_, fun x r' s' m t seen d ex hg2 => ?_, fun b1 b2 r' s1 s2 e1 e2 i1 i2 => ?_⟩, ⟨hle, hsz, by show h.n ≤ h.n + 1; omega, fun x hx ex => ?_⟩⟩
  · rcases hinv x r' s' ex with ⟨rfl, rfl, rfl⟩ | ⟨hne, ex⟩
    · exact ⟨by show h.n < h.n + 1; omega, by rw [setRow_size]; exact hrlt⟩
    · exact ⟨by show x < h.n + 1; have := (hI.dom x r' s' ex).1; omega, by rw [setRow_size]; exact (hI.dom x r' s' ex).2⟩
  · rcases hinv x r' s' ex with ⟨rfl, rfl, rfl⟩ | ⟨hne, ex⟩
    · exact hn0
    · exact hI.new x r' s' ex hx
  · rcases hinv x r' s' ex with ⟨rfl, rfl, rfl⟩ | ⟨hne, ex1⟩
    · have : cs2 = new := by
        rcases Heap.cells_some hc2 with hg2 | ⟨_, _, _, hg2, _⟩ <;> (rw [hget, if_pos rfl] at hg2; cases hg2 <;> rfl)
      subst this
      exact ⟨c', e, _, by rw [setRow_get]; simp [hrlt], fun _ => rfl, by rw [hs]; exact hsz', fun i hi => ⟨(hv i hi).1.mono hle hsz, (hv i hi).2⟩⟩
    · obtain ⟨hcx, hfx⟩ := hother x cs2 hne hc2
      obtain ⟨c0, e0, fz0, h1, h2, h3, h4⟩ := hI.row x r' s' cs2 ex1 hcx
      by_cases er : r' = r
      · subst er
        rw [hr] at h1; cases h1
        have hsame : fl' = fl ∧ s' + cs2.length ≤ s + cs.length := by
          by_cases exb : x = b
          · subst exb
            rw [hb] at ex1; cases ex1
            rw [hcb] at hcx; cases hcx
            exact ⟨hfx ⟨_, hg⟩, Nat.le_refl _⟩
          · obtain ⟨c2, y1, y2, k1, k2⟩ := hI.sep b x r' s s' hb ex1 (fun z => exb z.symm) (.inl hlo) (live_row hcb) (live_row hcx)
            rw [hg] at k1; cases k1
            have hf := hfx ⟨_, k2⟩
            refine ⟨hf, ?_⟩
            rcases Heap.cells_some hcx with hg3 | ⟨c3, t3, f3, hg3, hc3, hle3⟩
            · rw [hg3] at k2; cases k2
            · rw [hg3] at k2; cases k2
              rw [hcl] at hc3; cases hc3
              exact hI.tip b x cl cs cs2 fl r' s s' hg hcl hb ex1 hg3 hle3
        obtain ⟨hf, hw⟩ := hsame
        rcases hend with ⟨_, hb1, hb2⟩ | hf2
        · exact ⟨c', e, (0, 0), by rw [setRow_get]; simp [hrlt], h2, by rw [hs]; exact h3, fun i hi => ⟨by rw [hb2 _ (by omega)]; exact (h4 i hi).1.mono hle hsz, (h4 i hi).2⟩⟩
        · omega
      · exact ⟨c0, e0, fz0, by rw [setRow_get, if_neg (fun z => er z.1)]; exact h1, h2, h3, fun i hi => ⟨(h4 i hi).1.mono hle hsz, (h4 i hi).2⟩⟩
  · rcases hinv x r' s' ex with ⟨rfl, rfl, rfl⟩ | ⟨hne, ex⟩
    · rw [hget, if_pos rfl] at hg2; cases hg2
    · rw [hget, if_neg hne] at hg2
      obtain ⟨es', h1, h2, h3⟩ := hI.map x r' s' es t ex hg2
      refine ⟨es', ?_, h2, fun i k v a hi => ?_⟩
      · rw [setRow_get, if_neg (fun z => by rw [z.1, hr] at h1; cases h1)]; exact h1
      · obtain ⟨y, x1, x2, x3, x4⟩ := h3 i k v a hi
        exact ⟨y, x1, x2.mono hle hsz, x3.mono hle hsz, x4⟩
  · have mate : ∀ x sx, x ≠ h.n → ρ x = some (r, sx) → (h.extC cl fl' new).live x → ∃ y, h.get x = some (.row y (some cl)) := by
      intro x sx hne ex hl
      by_cases exb : x = b
      · subst exb; exact ⟨cs, hg⟩
      · obtain ⟨c2, y1, y2, k1, k2⟩ := hI.sep b x r s sx hb ex (fun z => exb z.symm) (.inl hlo) (live_row hcb) (hlive x hne hl)
        rw [hg] at k1; cases k1
        exact ⟨y2, k2⟩
    rcases hinv b1 r' s1 e1 with ⟨h1, h2, h3⟩ | ⟨hne1, e1'⟩ <;> rcases hinv b2 r' s2 e2 with ⟨h4, h5, h6⟩ | ⟨hne2, e2'⟩
    · exact absurd (h1.trans h4.symm) hne
    · subst h2
      obtain ⟨y, hy⟩ := mate b2 s2 hne2 e2' hl2
      exact ⟨cl, new, y, by rw [hget, if_pos h1], by rw [hget, if_neg hne2]; exact hy⟩
    · subst h5
      obtain ⟨y, hy⟩ := mate b1 s1 hne1 e1' hl1
      exact ⟨cl, y, new, by rw [hget, if_neg hne1]; exact hy, by rw [hget, if_pos h4]⟩
    · obtain ⟨c2, y1, y2, k1, k2⟩ := hI.sep b1 b2 r' s1 s2 e1' e2' hne hlo2 (hlive b1 hne1 hl1) (hlive b2 hne2 hl2)
      exact ⟨c2, y1, y2, by rw [hget, if_neg hne1]; exact k1, by rw [hget, if_neg hne2]; exact k2⟩
  · by_cases ec : c1 = cl
    · subst ec
      rw [hcls, if_pos rfl] at hc1
      cases hc1
      rcases hinv h.n r' s1 e1 with ⟨_, rfl, rfl⟩ | ⟨hz, _⟩
      · rw [hget, if_pos rfl] at hg1; cases hg1
        rcases hinv b2 r' s2 e2 with ⟨rfl, _, rfl⟩ | ⟨hne2, e2'⟩
        · rw [hget, if_pos rfl] at hg2; cases hg2; exact Nat.le_refl _
        · rw [hget, if_neg hne2] at hg2
          have hlt2 := Heap.get_lt hg2
          rcases hend with ⟨hf, hb1, _⟩ | hf2
          · have := hI.tip b b2 c1 cs cs2 fl r' s s2 hg hcl hb e2' hg2 (hf ▸ hle')
            omega
          · omega
      · exact absurd rfl hz
    · rw [hcls, if_neg ec] at hc1
      have hne1 : b1 ≠ h.n := fun z => by rw [hget, if_pos z] at hg1; cases hg1; exact ec rfl
      have hne2 : b2 ≠ h.n := fun z => by rw [hget, if_pos z] at hg2; cases hg2; exact ec rfl
      rw [hget, if_neg hne1] at hg1
      rw [hget, if_neg hne2] at hg2
      rcases hinv b1 r' s1 e1 with ⟨h1, _⟩ | ⟨_, e1'⟩
      · exact absurd h1 hne1
      · rcases hinv b2 r' s2 e2 with ⟨h1, _⟩ | ⟨_, e2'⟩
        · exact absurd h1 hne2
        · exact hI.tip b1 b2 c1 cs1 cs2 f1 r' s1 s2 hg1 hc1 e1' e2' hg2 hle'
  · rw [hget] at hg1
    rw [hcls] at hc1
    by_cases ec : c1 = cl
    · subst ec
      rw [if_pos rfl] at hc1; cases hc1
      split at hg1
      · omega
      · exact Nat.le_of_lt (Heap.get_lt hg1)
    · rw [if_neg ec] at hc1
      split at hg1
      · cases hg1; exact absurd rfl ec
      · exact hI.clt b1 cs1 c1 t f1 hg1 hc1
  · rw [hget] at hg1
    rw [hcls]
    by_cases ec : c1 = cl
    · exact ⟨_, if_pos ec⟩
    · rw [if_neg ec]
      split at hg1
      · cases hg1; exact absurd rfl ec
      · exact hI.clm b1 cs1 c1 hg1
  · rcases hinv x r' s' ex with ⟨rfl, rfl, rfl⟩ | ⟨hne, ex⟩
    · rw [hget, if_pos rfl] at hg2; cases hg2
    · rw [hget, if_neg hne] at hg2
      obtain ⟨h1, m', h2, h3⟩ := hI.itr x r' s' m t seen d ex hg2
      exact ⟨h1, m', by rw [setRow_get, if_neg (fun z => by rw [z.1, hr] at h2; cases h2)]; exact h2, h3.mono hle hsz⟩
  · have old : ∀ bx, (h.extC cl fl' new).isItr bx → bx ≠ h.n ∧ h.isItr bx := by
      rintro bx ⟨m, t, seen, d, hx⟩
      rw [hget] at hx
      split at hx
      · cases hx
      · rename_i hne; exact ⟨hne, m, t, seen, d, hx⟩
    obtain ⟨n1, j1⟩ := old _ i1
    obtain ⟨n2, j2⟩ := old _ i2
    rcases hinv b1 r' s1 e1 with ⟨h1, _⟩ | ⟨_, e1'⟩
    · exact absurd h1 n1
    · rcases hinv b2 r' s2 e2 with ⟨h1, _⟩ | ⟨_, e2'⟩
      · exact absurd h1 n2
      · exact hI.its b1 b2 r' s1 s2 e1' e2' j1 j2
  · exact ⟨by unfold Rho.set; rw [if_neg (Nat.ne_of_lt hx)]; exact ex, by rw [hget, if_neg (Nat.ne_of_lt hx)]⟩
theorem Inv.mput (hI : Inv lo n0 w0 ρ h w) {b r s t t' : Nat} {es es2 : List (Value × Value × Nat)} (hlo : lo ≤ b) (hb : ρ b = some (r, s)) (hg : h.get b = some (.map es t)) {em em' : Array MapEntry} (hr : w.heap[r]? = some (.map em t))
    (hl : es2.length = em'.size) (hv : ∀ (i : Nat) (k v : Value) (a : Nat), es2[i]? = some (k, v, a) → ∃ e : MapEntry, em'[i]? = some e ∧ VR ρ w k e.key ∧ VR ρ w v e.val ∧ e.born = a) :
    Inv lo n0 w0 ρ (h.setB b (.map es2 t')) (setRow w r (.map em' t')) ∧ Ext ρ ρ h (h.setB b (.map es2 t')) w (setRow w r (.map em' t')) := by
  have hsz : ∀ k, rowSize w k ≤ rowSize (setRow w r (.map em' t')) k := fun k => Nat.le_of_eq (rowSize_setMap hr k).symm
  have hid : ∀ (b : Nat) x, ρ b = some x → ρ b = some x := fun _ _ x => x
  have hn0 : n0 ≤ r := hI.new b r s hb hlo
  have hrlt := lt_of_get hr
  have hget : ∀ x, (h.setB b (.map es2 t')).get x = if x = b then some (.map es2 t') else h.get x := Heap.get_setB hg _
  have hcells : ∀ x, (h.setB b (.map es2 t')).cells x = h.cells x := by
    intro x
    by_cases ex : x = b
    · subst ex; unfold Heap.cells; rw [hget, if_pos rfl, hg]
    · exact Heap.cells_congr (by rw [hget, if_neg ex]) fun _ _ _ => rfl
  have hlive : ∀ x, (h.setB b (.map es2 t')).live x → h.live x := by
    rintro x (⟨cs2, h2⟩ | ⟨e2, t2, h2⟩)
    · rw [hcells] at h2; exact .inl ⟨cs2, h2⟩
    · rw [hget] at h2; split at h2
      · rename_i ex; subst ex; exact .inr ⟨es, t, hg⟩
      · exact .inr ⟨e2, t2, h2⟩
  have hrow : ∀ x cs c, (h.setB b (.map es2 t')).get x = some (.row cs (some c)) → h.get x = some (.row cs (some c)) := by
    intro x cs c hx; rw [hget] at hx; split at hx
    · cases hx
    · exact hx
  have hrow2 : ∀ x cs c, h.get x = some (.row cs (some c)) → (h.setB b (.map es2 t')).get x = some (.row cs (some c)) := by
    intro x cs c hx; rw [hget, if_neg (fun e => by rw [e, hg] at hx; cases hx)]; exact hx
  refine ⟨⟨hI.below.trans (below_setRow hn0 _), hI.n0le, hI.lon, fun x r' s' ex => ⟨(hI.dom x r' s' ex).1, by rw [setRow_size]; exact (hI.dom x r' s' ex).2⟩, hI.new, fun x r' s' cs2 ex hc2 => ?_, fun x r' s' e2 t2 ex hg2 => ?_,
    fun b1 b2 r' s1 s2 e1 e2 hne hlo2 hl1 hl2 => ?_, fun b1 b2 c1 cs1 cs2 f1 r' s1 s2 hg1 hc1 e1 e2 hg2 hle' => hI.tip b1 b2 c1 cs1 cs2 f1 r' s1 s2 (hrow _ _ _ hg1) hc1 e1 e2 (hrow _ _ _ hg2) hle',
    fun b1 cs1 c1 t f1 hg1 hc1 => hI.clt b1 cs1 c1 t f1 (hrow _ _ _ hg1) hc1, fun b1 cs1 c1 hg1 => hI.clm b1 cs1 c1 (hrow _ _ _ hg1), fun x r' s' m t seen d ex hg2 => ?_, fun b1 b2 r' s1 s2 e1 e2 i1 i2 => ?_⟩, ⟨hid, hsz, Nat.le_refl _, fun x hx ex => ⟨ex, by rw [hget, if_neg (fun e => by rw [e, hb] at ex; cases ex)]⟩⟩⟩
  · rw [hcells] at hc2
    obtain ⟨c0, e0, fz0, h1, h2, h3, h4⟩ := hI.row x r' s' cs2 ex hc2
    exact ⟨c0, e0, fz0, by rw [setRow_get, if_neg (fun z => by rw [z.1, hr] at h1; cases h1)]; exact h1, h2, h3, fun i hi => ⟨(h4 i hi).1.mono hid hsz, (h4 i hi).2⟩⟩
  · by_cases exb : x = b
    · subst exb
      rw [hget, if_pos rfl] at hg2; cases hg2
      rw [hb] at ex; cases ex
      exact ⟨em', by rw [setRow_get]; simp [hrlt], hl, fun i k v a hi => by
        obtain ⟨y, x1, x2, x3, x4⟩ := hv i k v a hi
        exact ⟨y, x1, x2.mono hid hsz, x3.mono hid hsz, x4⟩⟩
    · rw [hget, if_neg exb] at hg2
      obtain ⟨es', h1, h2, h3⟩ := hI.map x r' s' e2 t2 ex hg2
      have her : r' ≠ r := fun er => by
        subst er
        obtain ⟨c2, y1, y2, k1, k2⟩ := hI.sep b x r' s s' hb ex (fun z => exb z.symm) (.inl hlo) (live_map hg) (live_map hg2)
        rw [hg] at k1; cases k1
      exact ⟨es', by rw [setRow_get, if_neg (fun z => her z.1)]; exact h1, h2, fun i k v a hi => by
        obtain ⟨y, x1, x2, x3, x4⟩ := h3 i k v a hi
        exact ⟨y, x1, x2.mono hid hsz, x3.mono hid hsz, x4⟩⟩
  · obtain ⟨c2, cs1, cs2, h1, h2⟩ := hI.sep b1 b2 r' s1 s2 e1 e2 hne hlo2 (hlive b1 hl1) (hlive b2 hl2)
    exact ⟨c2, cs1, cs2, hrow2 _ _ _ h1, hrow2 _ _ _ h2⟩
  · rw [hget] at hg2
    split at hg2
    · cases hg2
    · obtain ⟨h1, m', h2, h3⟩ := hI.itr x r' s' m t seen d ex hg2
      exact ⟨h1, m', by rw [setRow_get, if_neg (fun z => by rw [z.1, hr] at h2; cases h2)]; exact h2, h3.mono hid hsz⟩
  · have old : ∀ bx, (h.setB b (.map es2 t')).isItr bx → h.isItr bx := by
      rintro bx ⟨m, t, seen, d, hx⟩
      rw [hget] at hx
      split at hx
      · cases hx
      · exact ⟨m, t, seen, d, hx⟩
    exact hI.its b1 b2 r' s1 s2 e1 e2 (old _ i1) (old _ i2)
theorem Inv.istep (hI : Inv lo n0 w0 ρ h w) {b r s t d d' : Nat} {m : Option Nat} {m' : Option Nat} {seen seen' : List Nat} (hb : ρ b = some (r, s)) (hg : h.get b = some (.itr m t seen d)) (hr : w.heap[r]? = some (.mapIter m' t ⟨seen⟩ d)) :
    Inv lo n0 w0 ρ (h.setB b (.itr m t seen' d')) (setRow w r (.mapIter m' t ⟨seen'⟩ d')) ∧ Ext ρ ρ h (h.setB b (.itr m t seen' d')) w (setRow w r (.mapIter m' t ⟨seen'⟩ d')) := by
  obtain ⟨⟨hlo, hs0⟩, m2, hr2, hvm⟩ := hI.itr b r s m t seen d hb hg
  rw [hr] at hr2
  have hsz : ∀ k, rowSize w k ≤ rowSize (setRow w r (.mapIter m' t ⟨seen'⟩ d')) k := fun k => by
    unfold rowSize
    rw [setRow_get]
    by_cases ek : k = r
    · subst ek; rw [hr, if_pos ⟨rfl, lt_of_get hr⟩]; exact Nat.le_refl _
    · simp [ek]
  have hid : ∀ (b : Nat) x, ρ b = some x → ρ b = some x := fun _ _ x => x
  have hn0 : n0 ≤ r := hI.new b r s hb hlo
  have hrlt := lt_of_get hr
  have hget : ∀ x, (h.setB b (.itr m t seen' d')).get x = if x = b then some (.itr m t seen' d') else h.get x := Heap.get_setB hg _
  have hcells : ∀ x, (h.setB b (.itr m t seen' d')).cells x = h.cells x := by
    intro x
    by_cases ex : x = b
    · subst ex; unfold Heap.cells; rw [hget, if_pos rfl, hg]
    · exact Heap.cells_congr (by rw [hget, if_neg ex]) fun _ _ _ => rfl
  have hrow : ∀ x y, (∀ m t seen d, y ≠ .itr m t seen d) → (h.setB b (.itr m t seen' d')).get x = some y → h.get x = some y := by
    intro x y hy hx; rw [hget] at hx; split at hx
    · cases hx; exact absurd rfl (hy _ _ _ _)
    · exact hx
  have hrow2 : ∀ x y, (∀ m t seen d, y ≠ .itr m t seen d) → h.get x = some y → (h.setB b (.itr m t seen' d')).get x = some y := by
    intro x y hy hx; rw [hget, if_neg (fun e => by rw [e, hg] at hx; cases hx; exact hy _ _ _ _ rfl)]; exact hx
  have hlive : ∀ x, (h.setB b (.itr m t seen' d')).live x → h.live x := by
    rintro x (⟨cs2, h2⟩ | ⟨e2, t2, h2⟩)
    · rw [hcells] at h2; exact .inl ⟨cs2, h2⟩
    · exact .inr ⟨e2, t2, hrow _ _ (fun _ _ _ _ e => by cases e) h2⟩
  have old : ∀ bx, (h.setB b (.itr m t seen' d')).isItr bx → h.isItr bx := by
    rintro bx ⟨m1, t1, seen1, d1, hx⟩
    rw [hget] at hx
    split at hx
    · rename_i e; rw [e]; exact ⟨_, _, _, _, hg⟩
    · exact ⟨_, _, _, _, hx⟩
  refine ⟨⟨hI.below.trans (below_setRow hn0 _), hI.n0le, hI.lon, fun x r' s' ex => ⟨(hI.dom x r' s' ex).1, by rw [setRow_size]; exact (hI.dom x r' s' ex).2⟩, hI.new, fun x r' s' cs2 ex hc2 => ?_, fun x r' s' e2 t2 ex hg2 => ?_,
    fun b1 b2 r' s1 s2 e1 e2 hne hlo2 hl1 hl2 => ?_, fun b1 b2 c1 cs1 cs2 f1 r' s1 s2 hg1 hc1 e1 e2 hg2 hle' => hI.tip b1 b2 c1 cs1 cs2 f1 r' s1 s2 (hrow _ _ (fun _ _ _ _ e => by cases e) hg1) hc1 e1 e2 (hrow _ _ (fun _ _ _ _ e => by cases e) hg2) hle',
    fun b1 cs1 c1 t f1 hg1 hc1 => hI.clt b1 cs1 c1 t f1 (hrow _ _ (fun _ _ _ _ e => by cases e) hg1) hc1, fun b1 cs1 c1 hg1 => hI.clm b1 cs1 c1 (hrow _ _ (fun _ _ _ _ e => by cases e) hg1), fun x r' s' m1 t1 seen1 d1 ex hg2 => ?_, fun b1 b2 r' s1 s2 e1 e2 i1 i2 => hI.its b1 b2 r' s1 s2 e1 e2 (old _ i1) (old _ i2)⟩,
    ⟨hid, hsz, Nat.le_refl _, fun x hx ex => ⟨ex, by rw [hget, if_neg (fun e => by rw [e, hb] at ex; cases ex)]⟩⟩⟩
  · rw [hcells] at hc2
    obtain ⟨c0, e0, fz0, h1, h2, h3, h4⟩ := hI.row x r' s' cs2 ex hc2
    exact ⟨c0, e0, fz0, by rw [setRow_get, if_neg (fun z => by rw [z.1, hr] at h1; cases h1)]; exact h1, h2, h3, fun i hi => ⟨(h4 i hi).1.mono hid hsz, (h4 i hi).2⟩⟩
  · obtain ⟨es', h1, h2, h3⟩ := hI.map x r' s' e2 t2 ex (hrow _ _ (fun _ _ _ _ e => by cases e) hg2)
    exact ⟨es', by rw [setRow_get, if_neg (fun z => by rw [z.1, hr] at h1; cases h1)]; exact h1, h2, fun i k v a hi => by
      obtain ⟨y, x1, x2, x3, x4⟩ := h3 i k v a hi
      exact ⟨y, x1, x2.mono hid hsz, x3.mono hid hsz, x4⟩⟩
  · obtain ⟨c2, cs1, cs2, h1, h2⟩ := hI.sep b1 b2 r' s1 s2 e1 e2 hne hlo2 (hlive b1 hl1) (hlive b2 hl2)
    exact ⟨c2, cs1, cs2, hrow2 _ _ (fun _ _ _ _ e => by cases e) h1, hrow2 _ _ (fun _ _ _ _ e => by cases e) h2⟩
  · rw [hget] at hg2
    split at hg2
    · rename_i exb; subst exb
      cases hg2
      rw [hb] at ex; cases ex
      injection hr2 with hr2; injection hr2 with e1
      subst e1
      exact ⟨⟨hlo, hs0⟩, m', by rw [setRow_get, if_pos ⟨rfl, hrlt⟩], hvm.mono hid hsz⟩
    · rename_i exb
      obtain ⟨h1, m'', h2, h3⟩ := hI.itr x r' s' m1 t1 seen1 d1 ex hg2
      exact ⟨h1, m'', by rw [setRow_get, if_neg (fun (z : r' = r ∧ r < w.heap.size) => exb (hI.its x b r s' s (z.1 ▸ ex) hb ⟨_, _, _, _, hg2⟩ ⟨_, _, _, _, hg⟩))]; exact h2, h3.mono hid hsz⟩
end
end
end Go.Proofs.Ytlidnionbofkaaa.Hm
namespace Go.Proofs.Ytlidnionbofkaaa.Hm
noncomputable section
open Go Go.RowKit
set_option linter.all false
set_option linter.unusedSimpArgs false
section
variable {P : Program} {t : TypeId} {w : World}
theorem run_under {d : TypeDesc} (h : P.underlying t = some d) : (underlying t).run P w = .ok d w := by
  simp [underlying, program, h, Sem.run]
theorem run_info {i : TypeInfo} (h : P.info? t = some i) : (typeInfo t).run P w = .ok i w := by
  simp [typeInfo, program, h, Sem.run]
theorem run_size {n : Nat} (h : sizeT P t = some n) : (sizeOf t).run P w = .ok n w := by
  unfold sizeT at h
  obtain ⟨i, hi, rfl⟩ := Option.map_eq_some_iff.1 h
  simp [sizeOf, run_info hi]
theorem run_bytes {n : Nat} (h : bytesT P t = some n) : ∃ i, (typeInfo t).run P w = .ok i w ∧ i.bytes = n := by
  unfold bytesT at h
  obtain ⟨i, hi, rfl⟩ := Option.map_eq_some_iff.1 h
  exact ⟨i, run_info hi, rfl⟩
theorem run_zero {z : Value} (h : zeroT P t = some z) : (zeroValue t).run P w = .ok z w := by
  unfold zeroT at h
  obtain ⟨i, hi, hz⟩ := Option.bind_eq_some_iff.1 h
  simp [zeroValue, run_info hi, hz]
theorem run_agg {g : Option Nat} (h : aggT P t = some g) : (isAgg t).run P w = .ok g.isSome w := by
  unfold aggT at h
  split at h
  · obtain ⟨n, hn, rfl⟩ := Option.map_eq_some_iff.1 h; simp [isAgg, run_under (by assumption : P.underlying t = _)]
  · obtain ⟨n, hn, rfl⟩ := Option.map_eq_some_iff.1 h; simp [isAgg, run_under (by assumption : P.underlying t = _)]
  · rename_i d h1 h2 hd
    cases h
    cases d <;> first | exact absurd rfl (h1 _) | exact absurd rfl (h2 _ _) | simp [isAgg, run_under hd]
  · cases h
theorem agg_size {n : Nat} (h : aggT P t = some (some n)) : sizeT P t = some n := by
  unfold aggT at h
  split at h
  · obtain ⟨m, hn, e⟩ := Option.map_eq_some_iff.1 h; cases e; exact hn
  · obtain ⟨m, hn, e⟩ := Option.map_eq_some_iff.1 h; cases e; exact hn
  · cases h
  · cases h
end
theorem add_off (r o i : Nat) : (⟨r, o, none⟩ : Addr).add i = ⟨r, o + i, none⟩ := by
  unfold Addr.add; split
  · rename_i e; subst e; rfl
  · rfl
section
variable {P : Program} {w : World} {r : Nat} {c : Array Value} {e : TypeId} {fz : Nat × Nat}
theorem cell_at (hr : w.heap[r]? = some (.cells c e fz)) (o : Nat) : w.cell? ⟨r, o, none⟩ = c[o]? := by simp [World.cell?, hr]
theorem run_load1 (hr : w.heap[r]? = some (.cells c e fz)) {o : Nat} (ho : o < c.size) : (load ⟨r, o, none⟩).run P w = .ok (c.getD o undef) w := by
  rw [run_load, cell_at hr]
  simp [Array.getElem?_eq_getElem ho, Array.getD_eq_getD_getElem?]
theorem run_loadFrom (hr : w.heap[r]? = some (.cells c e fz)) (o : Nat) : ∀ (n i : Nat) (acc : Array Value), o + i + n ≤ c.size →
    ∃ l, (loadCellsFrom ⟨r, o, none⟩ i n acc).run P w = .ok l w ∧ l.toList = acc.toList ++ (c.toList.drop (o + i)).take n
  | 0, i, acc, h => ⟨acc, by simp [loadCellsFrom], by simp⟩
  | n + 1, i, acc, h => by
    obtain ⟨l, h1, h2⟩ := run_loadFrom hr o n (i + 1) (acc.push (c.getD (o + i) undef)) (by omega)
    refine ⟨l, ?_, ?_⟩
    · rw [loadCellsFrom, Sem.run_bind, add_off, run_load1 hr (by omega)]
      exact h1
    · rw [h2]
      have hlt : o + i < c.toList.length := by simp; omega
      rw [List.drop_eq_getElem_cons hlt, List.take_succ_cons, Array.toList_push, List.append_assoc]
      congr 1
      simp [Array.getD_eq_getD_getElem?, Array.getElem?_eq_getElem (show o + i < c.size by omega), Nat.add_assoc]
theorem run_loadCells (hr : w.heap[r]? = some (.cells c e fz)) {o n : Nat} (h : o + n ≤ c.size) : ∃ l, (loadCells ⟨r, o, none⟩ n).run P w = .ok l w ∧ l.toList = (c.toList.drop o).take n := by
  obtain ⟨l, h1, h2⟩ := run_loadFrom (P := P) hr o n 0 #[] (by omega)
  exact ⟨l, h1, by simpa using h2⟩
def spliceA : Array Value → Nat → List Value → Array Value
  | c, _, [] => c
  | c, o, v :: vs => spliceA (c.setIfInBounds o v) (o + 1) vs
theorem spliceA_size : ∀ (vs : List Value) (c : Array Value) (o : Nat), (spliceA c o vs).size = c.size
  | [], c, o => rfl
  | v :: vs, c, o => by rw [spliceA, spliceA_size vs]; simp
theorem spliceA_get : ∀ (vs : List Value) (c : Array Value) (o : Nat), o + vs.length ≤ c.size → ∀ j, (spliceA c o vs).getD j undef = if o ≤ j ∧ j < o + vs.length then vs.getD (j - o) undef else c.getD j undef
  | [], c, o, _, j => by simp [spliceA]; omega
  | v :: vs, c, o, h, j => by
    simp only [List.length_cons] at h
    rw [spliceA, spliceA_get vs _ _ (by simp; omega)]
    by_cases h1 : o + 1 ≤ j ∧ j < o + 1 + vs.length
    · rw [if_pos h1, if_pos (by simp; omega)]
      obtain ⟨k, rfl⟩ : ∃ k, j = o + 1 + k := ⟨j - (o + 1), by omega⟩
      have e1 : o + 1 + k - (o + 1) = k := by omega
      have e2 : o + 1 + k - o = k + 1 := by omega
      rw [e1, e2]; rfl
    · rw [if_neg h1]
      by_cases h2 : j = o
      · subst h2
        rw [if_pos (by simp)]
        simp [Array.getD_eq_getD_getElem?, Array.getElem?_setIfInBounds, show j < c.size by omega]
      · rw [if_neg (by simp; omega)]
        simp [Array.getD_eq_getD_getElem?, Array.getElem?_setIfInBounds_ne (show o ≠ j from fun z => h2 z.symm)]
theorem run_store1 (hr : w.heap[r]? = some (.cells c e (0, 0))) {o : Nat} (ho : o < c.size) {v : Value} (hv : cell1 v = true) :
    (store ⟨r, o, none⟩ v).run P w = .ok () (setRow w r (.cells (c.setIfInBounds o v) e (0, 0))) := by
  have hf : w.frozen? ⟨r, o, none⟩ = false := by simp [World.frozen?, hr]
  have hc : w.cell? ⟨r, o, none⟩ = some c[o] := by rw [cell_at hr, Array.getElem?_eq_getElem ho]
  unfold store
  cases v <;> first | (cases hv; done) | (simp only [Sem.run, hc, hf, setCell_eq hr]; rfl)
theorem run_storeFrom (o : Nat) : ∀ (vs : List Value) (i : Nat) (w : World) (c : Array Value), w.heap[r]? = some (.cells c e (0, 0)) → o + i + vs.length ≤ c.size → (∀ v ∈ vs, cell1 v = true) →
    (storeCells ⟨r, o, none⟩ vs i).run P w = .ok () (setRow w r (.cells (spliceA c (o + i) vs) e (0, 0)))
  | [], i, w, c, hr, h, hv => by simp [storeCells, spliceA, setRow_self hr]
  | v :: vs, i, w, c, hr, h, hv => by
    simp only [List.length_cons] at h
    rw [storeCells, Sem.run_bind, add_off, run_store1 hr (by omega) (hv v (by simp))]
    have hr2 : (setRow w r (.cells (c.setIfInBounds (o + i) v) e (0, 0))).heap[r]? = some (.cells (c.setIfInBounds (o + i) v) e (0, 0)) := by rw [setRow_get]; simp [lt_of_get hr]
    have := run_storeFrom o vs (i + 1) _ _ hr2 (by simp; omega) (fun x hx => hv x (by simp [hx]))
    simp only [Result.andThen_ok]
    rw [this, setRow_setRow, spliceA, Nat.add_assoc]
theorem run_storeCells (hr : w.heap[r]? = some (.cells c e (0, 0))) {o : Nat} {vs : List Value} (h : o + vs.length ≤ c.size) (hv : ∀ v ∈ vs, cell1 v = true) :
    (storeCells ⟨r, o, none⟩ vs).run P w = .ok () (setRow w r (.cells (spliceA c o vs) e (0, 0))) := run_storeFrom (P := P) o vs 0 w c hr (by omega) hv
end
section
variable {lo n0 : Nat} {w0 : World} {ρ : Rho} {h : Heap} {w : World} {P : Program}
theorem getD_drop_take (c : List Value) (o n i : Nat) (hi : i < n) : ((c.drop o).take n).getD i undef = c.getD (o + i) undef := by
  simp [List.getD_eq_getElem?_getD, List.getElem?_take, List.getElem?_drop, hi]
theorem getD_splice (cs vs : List Value) (o : Nat) (h : o + vs.length ≤ cs.length) (i : Nat) :
    (cs.take o ++ (vs ++ cs.drop (o + vs.length))).getD i undef = if o ≤ i ∧ i < o + vs.length then vs.getD (i - o) undef else cs.getD i undef := by
  have hl : (cs.take o).length = o := by simp; omega
  simp only [List.getD_eq_getElem?_getD]
  by_cases h1 : i < o
  · rw [List.getElem?_append_left (by omega), if_neg (by omega)]
    simp [List.getElem?_take, h1]
  · rw [List.getElem?_append_right (by omega), hl]
    by_cases h2 : i - o < vs.length
    · rw [List.getElem?_append_left h2, if_pos (by omega)]
    · rw [List.getElem?_append_right (by omega), if_neg (by omega), List.getElem?_drop]
      congr 2; omega
theorem Inv.rd (hI : Inv lo n0 w0 ρ h w) {b r s o n : Nat} {l : List Value} (hb : ρ b = some (r, s)) (hl : h.rd b o n = some l) :
    ∃ l', (loadCells ⟨r, s + o, none⟩ n).run P w = .ok l' w ∧ VRl ρ w l l'.toList ∧ l.length = n ∧ (∀ v ∈ l, cell1 v = true) ∧ s + o + n ≤ rowSize w r := by
  unfold Heap.rd at hl
  split at hl
  · rename_i cs hc
    split at hl
    · rename_i hle
      cases hl
      obtain ⟨c, e, fz, h1, h2, h3, h4⟩ := hI.row b r s cs hb hc
      obtain ⟨l', k1, k2⟩ := run_loadCells (P := P) h1 (o := s + o) (n := n) (by omega)
      have hlen : ((cs.drop o).take n).length = n := by simp; omega
      refine ⟨l', k1, ⟨by rw [k2]; simp; omega, fun i hi => ?_⟩, hlen, fun v hv => ?_, by unfold rowSize; rw [h1]; show s + o + n ≤ c.size; omega⟩
      · rw [hlen] at hi
        rw [k2, getD_drop_take _ _ _ _ hi, getD_drop_take _ _ _ _ hi]
        have := (h4 (o + i) (by omega)).1
        rw [getD_toList] at this
        rwa [Nat.add_assoc]
      · obtain ⟨i, hi, rfl⟩ := List.getElem_of_mem hv
        rw [hlen] at hi
        have := (h4 (o + i) (by omega)).2
        have e2 := getD_drop_take cs o n i hi
        rw [List.getD_eq_getElem?_getD, List.getElem?_eq_getElem (by omega)] at e2
        simp only [Option.getD_some] at e2
        rw [e2]; exact this
    · cases hl
  · cases hl
theorem Inv.rd1 (hI : Inv lo n0 w0 ρ h w) {b r s o : Nat} {v : Value} (hb : ρ b = some (r, s)) (hl : h.rd1 b o = some v) :
    ∃ v', (load ⟨r, s + o, none⟩).run P w = .ok v' w ∧ VR ρ w v v' ∧ cell1 v = true := by
  unfold Heap.rd1 at hl
  split at hl
  · rename_i cs hc
    obtain ⟨c, e, fz, h1, h2, h3, h4⟩ := hI.row b r s cs hb hc
    have ho : o < cs.length := by
      rcases Nat.lt_or_ge o cs.length with h | h
      · exact h
      · rw [List.getElem?_eq_none h] at hl; cases hl
    have hd : cs.getD o undef = v := by simp [List.getD_eq_getElem?_getD, hl]
    exact ⟨_, run_load1 (P := P) h1 (by omega), by have := (h4 o ho).1; rwa [hd] at this, by have := (h4 o ho).2; rwa [hd] at this⟩
  · cases hl
theorem Inv.wr (hI : Inv lo n0 w0 ρ h w) {b r s o : Nat} {vs vs' : List Value} {h' : Heap} (hb : ρ b = some (r, s)) (hw : h.wr lo b o vs = some h') (hv : VRl ρ w vs vs') (h1 : ∀ v ∈ vs, cell1 v = true) (h1' : ∀ v ∈ vs', cell1 v = true) :
    ∃ w', (storeCells ⟨r, s + o, none⟩ vs').run P w = .ok () w' ∧ Inv lo n0 w0 ρ h' w' ∧ Ext ρ ρ h h' w w' := by
  rw [Heap.wr_def] at hw
  split at hw
  · rename_i cs hc
    split at hw
    · rename_i hle
      obtain ⟨hlo, hcase⟩ := put_spec hc hw
      obtain ⟨c, e, fz, k1, k2, k3, k4⟩ := hI.row b r s cs hb hc
      obtain rfl := k2 hlo
      have hlen : (cs.take o ++ (vs ++ cs.drop (o + vs.length))).length = cs.length := by simp; omega
      refine ⟨_, run_storeCells (P := P) k1 (by rw [← hv.1]; omega) h1', hI.put hb hc hw hlen k1 (spliceA_size _ _ _) fun i hi => ?_⟩
      rw [hlen] at hi
      rw [getD_splice _ _ _ hle, spliceA_get _ _ _ (by rw [← hv.1]; omega), ← hv.1]
      by_cases hin : o ≤ i ∧ i < o + vs.length
      · rw [if_pos hin, if_pos (by omega)]
        have e1 : s + i - (s + o) = i - o := by omega
        rw [e1]
        refine ⟨hv.2 _ (by omega), h1 _ ?_⟩
        rw [List.getD_eq_getElem?_getD, List.getElem?_eq_getElem (by omega)]
        simp
      · rw [if_neg hin, if_neg (by omega)]
        exact k4 i hi
    · cases hw
  · cases hw
end
end
end Go.Proofs.Ytlidnionbofkaaa.Hm
