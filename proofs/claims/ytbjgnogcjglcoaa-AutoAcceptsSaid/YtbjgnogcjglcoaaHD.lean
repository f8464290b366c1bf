/- The machine H: a deterministic reading of the given form, over a plain heap of rows, that the kernel can run; and the translation of the form's code into H's code. Definitions alone; what they are worth is proved in the texts behind this one. -/
import Derived.Orders
import Derived.Scope
import Derived.Laws.Sem
import Derived.Below
namespace Go.Proofs.Ytbjgnogcjglcoaa.Hm
open Go
set_option linter.all false

/-! ### the heap -/
/-- A row of cells (of a class of rows that may share memory, or of none), or a map: key, value, when it came. -/
inductive HB where
  | row (cells : List Value) (cls : Option Nat)
  | map (es : List (Value × Value × Nat)) (clock : Nat)
/-- Blocks, the newest first; of each class its newest row and the oldest that may still be read. -/
structure Heap where
  bs : List HB
  n : Nat
  cs : List (Nat × Nat)
  m : Nat
def Heap.get (h : Heap) (b : Nat) : Option HB := if b < h.n then h.bs[h.n - 1 - b]? else none
def Heap.cl (h : Heap) (c : Nat) : Option (Nat × Nat) := if c < h.m then h.cs[h.m - 1 - c]? else none
def Heap.setB (h : Heap) (b : Nat) (x : HB) : Heap := { h with bs := h.bs.set (h.n - 1 - b) x }
def Heap.setC (h : Heap) (c : Nat) (x : Nat × Nat) : Heap := { h with cs := h.cs.set (h.m - 1 - c) x }
/-- The cells of a row that may be read. -/
def Heap.cells (h : Heap) (b : Nat) : Option (List Value) :=
  match h.get b with
  | some (.row cs none) => some cs
  | some (.row cs (some c)) =>
    match h.cl c with
    | some (_, fl) => if fl ≤ b then some cs else none
    | none => none
  | _ => none
/-- A row's cells anew: of a class the newest row alone; the elder ones can't be read any more. -/
def Heap.put (lo : Nat) (h : Heap) (b : Nat) (cs : List Value) : Option Heap :=
  if b < lo then none else
  match h.get b with
  | some (.row _ none) => some (h.setB b (.row cs none))
  | some (.row _ (some c)) =>
    match h.cl c with
    | some (tip, _) => if tip = b then some ((h.setB b (.row cs (some c))).setC c (tip, b)) else none
    | none => none
  | _ => none
def Heap.rd (h : Heap) (b off n : Nat) : Option (List Value) :=
  match h.cells b with
  | some cs => if off + n ≤ cs.length then some ((cs.drop off).take n) else none
  | none => none
def Heap.rd1 (h : Heap) (b off : Nat) : Option Value :=
  match h.cells b with
  | some cs => cs[off]?
  | none => none
def Heap.wr (lo : Nat) (h : Heap) (b off : Nat) (vs : List Value) : Option Heap :=
  match h.cells b with
  | some cs => if off + vs.length ≤ cs.length then h.put lo b (cs.take off ++ (vs ++ cs.drop (off + vs.length))) else none
  | none => none
def Heap.new (h : Heap) (cells : List Value) : Heap := { h with bs := .row cells none :: h.bs, n := h.n + 1 }
def Heap.newMap (h : Heap) : Heap := { h with bs := .map [] 0 :: h.bs, n := h.n + 1 }
/-- A row of a class of its own. -/
def Heap.newC (h : Heap) (cells : List Value) : Heap :=
  { bs := .row cells (some h.m) :: h.bs, n := h.n + 1, cs := (h.n, 0) :: h.cs, m := h.m + 1 }
/-- A row more of a class. -/
def Heap.extC (h : Heap) (c fl : Nat) (cells : List Value) : Heap :=
  { bs := .row cells (some c) :: h.bs, n := h.n + 1, cs := h.cs.set (h.m - 1 - c) (h.n, fl), m := h.m }

/-! ### values -/
def plain0 : Value → Bool
  | .bool _ | .int _ _ | .string _ | .pointer none | .map none | .nilFunc | .nilIface | .slice none 0 0 => true
  | _ => false
def plainV : Value → Bool
  | .agg cs => cs.toList.all plain0
  | .tuple cs => cs.toList.all plain0
  | v => plain0 v
def okOp : Operand → Bool
  | .tmp _ => true
  | .const v => plainV v
  | .global _ => false
  | .func _ => true
def ev (σ : List Value) : Operand → Value
  | .tmp t => σ.getD t undef
  | .const v => v
  | .func f => .func (.func f) #[] #[]
  | .global _ => undef
def pureRun : Sem Value → Option Value
  | .pure v => some v
  | _ => none
/-- Kinds of cells that '==' compares; kinds of values that may be nil. -/
inductive PK where
  | int | bool | str
inductive NK where
  | slice | map | func | ptr | iface
/-- '==' of cells that are bools, whole numbers or strings. -/
def veq0 : PK → Value → Value → Option Bool
  | .bool, .bool a, .bool b => some (a == b)
  | .int, .int k a, .int k' b => if k = k' then some (a == b) else none
  | .str, .string a, .string b => some (decide (a.data.toList = b.data.toList))
  | _, _, _ => none
/-- '==' where one side is nil. -/
def nileq : NK → Value → Value → Option Bool
  | .slice, .slice none _ _, .slice b _ _ => some b.isNone
  | .slice, .slice (some _) _ _, .slice none _ _ => some false
  | .map, .map none, .map b => some b.isNone
  | .map, .map (some _), .map none => some false
  | .func, .nilFunc, .nilFunc => some true
  | .func, .nilFunc, .func _ _ _ | .func, .func _ _ _, .nilFunc => some false
  | .ptr, .pointer none, .pointer b => some b.isNone
  | .ptr, .pointer (some _), .pointer none => some false
  | .iface, .nilIface, .iface _ _ | .iface, .iface _ _, .nilIface => some false
  | _, _, _ => none
def eqcells (xs ys : List Value) : List (Nat × PK) → Option Bool
  | [] => some true
  | o :: os =>
    match xs[o.1]?, ys[o.1]? with
    | some a, some b =>
      match veq0 o.2 a b with
      | some true => eqcells xs ys os
      | r => r
    | _, _ => none
inductive EqD where
  | prim (k : PK)
  | nil (k : NK)
  | cells (n : Nat) (offs : List (Nat × PK))
def eqv : EqD → Value → Value → Option Bool
  | .prim k, x, y => veq0 k x y
  | .nil k, x, y => nileq k x y
  | .cells n offs, .agg xs, .agg ys => if xs.toList.length = n ∧ ys.toList.length = n then eqcells xs.toList ys.toList offs else none
  | _, _, _ => none
/-- May the value be a key. -/
def keyOk : EqD → Value → Bool
  | .prim k, x => (veq0 k x x).isSome
  | .cells n offs, .agg xs => xs.toList.length == n && offs.all fun o => match xs.toList[o.1]? with
    | some v => (veq0 o.2 v v).isSome
    | none => false
  | _, _ => false
def bin (op : BinOp) (x y : Value) : Option Value :=
  match op, x, y with
  | .shl, .int k a, .int yk b | .shr, .int k a, .int yk b => pureRun (Op.shift op k a yk b)
  | _, .int k a, .int k' b =>
    if k ≠ k' then none else
    match op with
    | .add | .sub | .mul => pureRun (Op.intArith op k a b)
    | .quo | .rem => pureRun (Op.intDiv op k a b)
    | .and | .or | .xor | .andNot => pureRun (Op.intBits op k a b)
    | _ => pureRun (Op.intCmp op a b)
  | _, .string a, .string b => pureRun (Op.stringOp op a b)
  | _, _, _ => none
/-- The cells of a value that memory can hold. -/
def cellsV : Value → Option (List Value)
  | .agg cs => some cs.toList
  | .tuple _ => none
  | v => some [v]
/-- Parts laid over cells: each where it begins, and how many cells it must have. -/
def fillL : List Value → List (Nat × Nat × Value) → Option (List Value)
  | cs, [] => some cs
  | cs, (off, size, v) :: rest =>
    match cellsV v with
    | some vs => if vs.length = size ∧ off + size ≤ cs.length then fillL (cs.take off ++ (vs ++ cs.drop (off + size))) rest else none
    | none => none
def seen (x : Option Value) (d : Nat) : Option Nat :=
  match x with
  | none => some d
  | some (.int _ i) => if 0 ≤ i then some i.toNat else none
  | some _ => none
/-- An entry of a key: its place and its value. -/
def findL (d : EqD) (k : Value) : List (Value × Value × Nat) → Nat → Option (Option (Nat × Value))
  | [], _ => some none
  | (k', v, _) :: es, i =>
    match eqv d k k' with
    | some true => some (some (i, v))
    | some false => findL d k es (i + 1)
    | none => none

/-! ### the code -/
inductive HOp where
  | mv (x : Operand)
  | pick (c a b : Operand)
  | alloc (zero : List Value)
  | box (x : Operand)
  | build (zero : List Value) (parts : List (Nat × Nat × Operand))
  | bslice (esz len : Nat) (zero : List Value) (parts : List (Nat × Operand))
  | load (agg : Option Nat) (a : Operand)
  | store (size : Nat) (a x : Operand)
  | nilchk (x : Operand)
  | bin (op : BinOp) (x y : Operand)
  | eq (neg : Bool) (d : EqD) (x y : Operand)
  | un (op : UnOp) (x : Operand)
  | convI (k : IntKind) (x : Operand)
  | slice (esz : Nat) (x : Operand) (lo hi mx : Option Operand)
  | slicea (n esz : Nat) (x : Operand) (lo hi mx : Option Operand)
  | slices (x : Operand) (lo hi : Option Operand)
  | faddr (off : Nat) (x : Operand)
  | field (off : Nat) (agg : Option Nat) (x : Operand)
  | iaddr (esz : Nat) (x i : Operand)
  | iaddra (n esz : Nat) (x i : Operand)
  | index (n esz : Nat) (agg : Option Nat) (x i : Operand)
  | indexs (x i : Operand)
  | lookup (d : EqD) (zero : Value) (m k : Operand) (ok : Bool)
  | mput (d : EqD) (m k x : Operand)
  | mkmap
  | lenm (x : Operand)
  | extract (x : Operand) (i : Nat)
  | mkfunc (f : Nat) (first captured : List Operand)
  | append (esz bytes : Nat) (s x : Operand)
  | mkslice (esz bytes : Nat) (zero : List Value) (l c : Operand)
  | len (x : Operand)
  | lens (x : Operand)
  | lena (n : Nat) (x : Operand)
  | call (f : Operand) (args : List Operand)
  | add64 (f x y z : Operand)
structure HOper where
  dst : Option Nat
  op : HOp
  guard : Option (Nat × Bool)
inductive HC where
  | skip | ret
  | exit (id : Nat)
  | seq (a b : HC)
  | cond (c : Operand) (a b : HC)
  | block (id : Nat) (c : HC)
  | loop (c : HC)
  | rgn (ops : List HOper)
  | drw (ops : List HOper) (sched : List (Nat × List Nat))
structure HFn where
  ntmps : Nat
  res : List (Nat × Option (Option Nat))
  body : HC
  prim : Option (Nat → List Value → Heap → Option (Value × Heap)) := none
inductive Out where
  | nrm | ret
  | ext (id : Nat)

/-! ### the run -/
def sliceOf (esz : Nat) (x : Value) (lo hi mx : Option Value) : Option Value :=
  match x with
  | .slice a len cap =>
    match seen mx cap with
    | none => none
    | some m =>
      if m ≤ cap then
        match seen hi len, seen lo 0 with
        | some h, some l =>
          if h ≤ m ∧ l ≤ h then
            match a with
            | none => some (.slice none 0 0)
            | some ⟨b, o, e⟩ =>
              match e with
              | none => some (.slice (some ⟨b, if m = l then o else o + l * esz, none⟩) (h - l) (m - l))
              | some z => if z = esz then
                  match mx with
                  | some _ => some (.slice (some ⟨b, if m = l then o else o + l * esz, none⟩) (h - l) (m - l))
                  | none => some (.slice (some ⟨b, o + l * esz, some z⟩) (h - l) (m - l))
                else none
          else none
        | _, _ => none
      else none
  | _ => none
/-- The entries of a map. -/
def Heap.entries (h : Heap) : Value → Option (List (Value × Value × Nat))
  | .map none => some []
  | .map (some b) => match h.get b with
    | some (.map es _) => some es
    | _ => none
  | _ => none
/-- A part of an aggregate. -/
def partOf (cs : List Value) (off : Nat) : Option Nat → Option Value
  | some n => if off + n ≤ cs.length then some (.agg ⟨(cs.drop off).take n⟩) else none
  | none => cs[off]?
def newCells (h : Heap) (esz : Nat) (x : Value) : Option (List Value × Nat) :=
  match x with
  | .slice none n _ => if n = 0 then some ([], 0) else none
  | .slice (some ⟨b, o, _⟩) n _ => if n = 0 then some ([], 0) else (h.rd b o (n * esz)).map (·, n)
  | _ => none
def appendOf (lo : Nat) (h : Heap) (esz bytes : Nat) (s x : Value) : Option (Value × Heap) :=
  match s, newCells h esz x with
  | .slice base len cap, some (new, n) =>
    let need := len + n
    if need ≤ cap then
      match base with
      | some ⟨b, o, _⟩ => if n = 0 then some (.slice base need cap, h) else (h.wr lo b (o + len * esz) new).map (.slice base need cap, ·)
      | none => if need = 0 then some (s, h) else none
    else if need * bytes ≤ 2 ^ 44 then
      let r : Value := .slice (some ⟨h.n, 0, some esz⟩) need need
      match base with
      | none => if len = 0 then some (r, h.newC new) else none
      | some ⟨b, o, none⟩ => match h.rd b o (len * esz) with
        | some old => some (r, h.newC (old ++ new))
        | none => none
      | some ⟨b, o, some e⟩ =>
        if e ≠ esz ∨ b < lo then none else
        match h.get b, h.rd b o (len * esz) with
        | some (.row cs (some c)), some old =>
          match h.cl c with
          | some (tip, fl) =>
            if tip = b then some (r, h.extC c (if o + len * esz = cs.length then fl else h.n) (old ++ new)) else none
          | none => none
        | _, _ => none
    else none
  | _, _ => none
/-- What an operation that calls nothing gives. -/
def xop (lo : Nat) (σ : List Value) (h : Heap) : HOp → Option (Value × Heap)
  | .mv x => some (ev σ x, h)
  | .pick c a b => match ev σ c with
    | .bool t => some (if t then ev σ a else ev σ b, h)
    | _ => none
  | .alloc z => some (.pointer (some ⟨h.n, 0, none⟩), h.new z)
  | .box x => match cellsV (ev σ x) with
    | some cs => some (.pointer (some ⟨h.n, 0, none⟩), h.new cs)
    | none => none
  | .build z parts => match fillL z (parts.map fun p => (p.1, p.2.1, ev σ p.2.2)) with
    | some cs => some (.agg ⟨cs⟩, h)
    | none => none
  | .bslice esz len z parts => match fillL (List.replicate len z).flatten (parts.map fun p => (p.1 * esz, esz, ev σ p.2)) with
    | some cs => some (.slice (some ⟨h.n, 0, none⟩) len len, h.new cs)
    | none => none
  | .load agg a => match ev σ a with
    | .pointer (some ⟨b, o, none⟩) => match agg with
      | none => (h.rd1 b o).map (·, h)
      | some n => (h.rd b o n).map fun cs => (.agg ⟨cs⟩, h)
    | _ => none
  | .store n a x => match ev σ a with
    | .pointer (some ⟨b, o, none⟩) =>
      match cellsV (ev σ x) with
      | some vs => if vs.length = n then (h.wr lo b o vs).map (undef, ·) else none
      | none => none
    | _ => none
  | .nilchk x => match ev σ x with
    | .pointer (some a) => some (.pointer (some a), h)
    | _ => none
  | .bin op x y => (bin op (ev σ x) (ev σ y)).map (·, h)
  | .eq neg d x y => (eqv d (ev σ x) (ev σ y)).map fun b => (.bool (if neg then !b else b), h)
  | .un op x => (pureRun (Op.unary op (ev σ x))).map (·, h)
  | .convI k x => match ev σ x with
    | .int _ n => some (.int k (k.wrap n), h)
    | _ => none
  | .slice esz x l hi mx => (sliceOf esz (ev σ x) (l.map (ev σ)) (hi.map (ev σ)) (mx.map (ev σ))).map (·, h)
  | .slicea n esz x l hi mx => match ev σ x with
    | .pointer (some ⟨b, o, none⟩) => (sliceOf esz (.slice (some ⟨b, o, none⟩) n n) (l.map (ev σ)) (hi.map (ev σ)) (mx.map (ev σ))).map (·, h)
    | _ => none
  | .slices x l hi => match ev σ x with
    | .string s => match seen (hi.map (ev σ)) s.size, seen (l.map (ev σ)) 0 with
      | some b, some a => if b ≤ s.size ∧ a ≤ b then some (.string ⟨⟨(s.data.toList.drop a).take (b - a)⟩⟩, h) else none
      | _, _ => none
    | _ => none
  | .faddr off x => match ev σ x with
    | .pointer (some ⟨b, o, none⟩) => some (.pointer (some ⟨b, o + off, none⟩), h)
    | _ => none
  | .field off agg x => match ev σ x with
    | .agg cs => (partOf cs.toList off agg).map (·, h)
    | _ => none
  | .iaddr esz x i => match ev σ x, ev σ i with
    | .slice (some ⟨b, o, _⟩) len _, .int _ j => if 0 ≤ j ∧ j < len then some (.pointer (some ⟨b, o + j.toNat * esz, none⟩), h) else none
    | _, _ => none
  | .iaddra n esz x i => match ev σ x, ev σ i with
    | .pointer (some ⟨b, o, none⟩), .int _ j => if 0 ≤ j ∧ j < n then some (.pointer (some ⟨b, o + j.toNat * esz, none⟩), h) else none
    | _, _ => none
  | .index n esz agg x i => match ev σ x, ev σ i with
    | .agg cs, .int _ j =>
      if 0 ≤ j ∧ j < n then
        (partOf cs.toList (j.toNat * esz) agg).map (·, h)
      else none
    | _, _ => none
  | .indexs x i => match ev σ x, ev σ i with
    | .string s, .int _ j => if 0 ≤ j then (s.data.toList[j.toNat]?).map fun c => (.int .u8 c.toNat, h) else none
    | _, _ => none
  | .lookup d zero m k ok =>
    match h.entries (ev σ m) with
    | none => none
    | some es => if keyOk d (ev σ k) then match findL d (ev σ k) es 0 with
      | some (some (_, v)) => some (if ok then .tuple #[v, .bool true] else v, h)
      | some none => some (if ok then .tuple #[zero, .bool false] else zero, h)
      | none => none
      else none
  | .mput d m k x => match ev σ m with
    | .map (some b) => if b < lo then none else match h.get b with
      | some (.map es t) => if keyOk d (ev σ k) then match findL d (ev σ k) es 0 with
        | some (some (i, _)) => match es[i]? with
          | some (_, _, t') => some (undef, h.setB b (.map (es.set i (ev σ k, ev σ x, t')) t))
          | none => none
        | some none => some (undef, h.setB b (.map (es ++ [(ev σ k, ev σ x, t)]) (t + 1)))
        | none => none
        else none
      | _ => none
    | _ => none
  | .mkmap => some (.map (some h.n), h.newMap)
  | .lenm x => match ev σ x with
    | .map none => some (.int .i64 0, h)
    | .map (some b) => match h.get b with
      | some (.map es _) => some (.int .i64 es.length, h)
      | _ => none
    | _ => none
  | .extract x i => match ev σ x with
    | .tuple vs => (vs.toList[i]?).map (·, h)
    | _ => none
  | .mkfunc f a c => some (.func (.func f) ⟨a.map (ev σ)⟩ ⟨c.map (ev σ)⟩, h)
  | .append esz bytes s x => appendOf lo h esz bytes (ev σ s) (ev σ x)
  | .mkslice esz bytes zero l c => match ev σ l, ev σ c with
    | .int _ l, .int _ c => if 0 ≤ l ∧ l ≤ c ∧ c * bytes ≤ 2 ^ 44 then some (.slice (some ⟨h.n, 0, none⟩) l.toNat c.toNat, h.new (List.replicate c.toNat zero).flatten) else none
    | _, _ => none
  | .len x => match ev σ x with
    | .slice _ n _ => some (.int .i64 n, h)
    | _ => none
  | .lens x => match ev σ x with
    | .string s => some (.int .i64 s.size, h)
    | _ => none
  | .lena n x => some (.int .i64 n, h)
  | .add64 _ x y z => match ev σ x, ev σ y, ev σ z with
    | .int _ a, .int _ b, .int _ c => if c = 0 then some (.tuple #[.int .u64 (Int.ofNat ((a.toNat + b.toNat) % 18446744073709551616)), .int .u64 (Int.ofNat ((a.toNat + b.toNat) / 18446744073709551616))], h) else none
    | _, _, _ => none
  | .call _ _ => none
/-- Of a call: the function and what it is handed. -/
def callee (σ : List Value) (f : Operand) (args : List Operand) : Option (Nat × List Value) :=
  match ev σ f with
  | .func (.func k) first captured => some (k, (first.toList ++ args.map (ev σ)) ++ captured.toList)
  | _ => none
def xoper (call : Nat → List Value → Heap → Option (Value × Heap)) (lo : Nat) (σ : List Value) (h : Heap) : HOp → Option (Value × Heap)
  | .call f args => match callee σ f args with
    | some (k, vs) => call k vs h
    | none => none
  | o => xop lo σ h o
def putD (σ : List Value) (d : Option Nat) (v : Value) : List Value :=
  match d with
  | some t => σ.set t v
  | none => σ
def wantedH (σ : List Value) : Option (Nat × Bool) → Bool
  | none => true
  | some (t, b) => match σ[t]? with
    | some (.bool c) => c == b
    | _ => false
def step1 (call : Nat → List Value → Heap → Option (Value × Heap)) (lo : Nat) (o : HOper) (σ : List Value) (h : Heap) : Option (List Value × Heap) :=
  if wantedH σ o.guard then
    match xoper call lo σ h o.op with
    | some (v, h') => some (putD σ o.dst v, h')
    | none => none
  else some (putD σ o.dst undef, h)
def rops (call : Nat → List Value → Heap → Option (Value × Heap)) (lo : Nat) : List HOper → List Value → Heap → Option (List Value × Heap)
  | [], σ, h => some (σ, h)
  | o :: os, σ, h => match step1 call lo o σ h with
    | some (σ', h') => rops call lo os σ' h'
    | none => none
/-- The same value, for sure. -/
def same0 : Value → Value → Bool
  | .bool a, .bool b => a == b
  | .int k a, .int k' b => decide (k = k') && decide (a = b)
  | .string a, .string b => decide (a.data.toList = b.data.toList)
  | .pointer a, .pointer b => decide (a = b)
  | .slice a n c, .slice b m d => decide (a = b) && decide (n = m) && decide (c = d)
  | .map a, .map b => decide (a = b)
  | .nilFunc, .nilFunc => true
  | .nilIface, .nilIface => true
  | _, _ => false
def sameL : List Value → List Value → Bool
  | [], [] => true
  | a :: as, b :: bs => same0 a b && sameL as bs
  | _, _ => false
def sameV : Value → Value → Bool
  | .agg a, .agg b => sameL a.toList b.toList
  | .tuple a, .tuple b => sameL a.toList b.toList
  | a, b => same0 a b
/-- Loads read anew give what they gave. -/
def recheck (lo : Nat) (ops : List HOper) (σ : List Value) (h : Heap) : List Nat → Bool
  | [] => true
  | j :: js => (match ops[j]? with
    | some o => if wantedH σ o.guard then
        (match o.dst, xop lo σ h o.op with
        | some d, some (v, _) => sameV (σ.getD d undef) v
        | _, _ => false)
      else true
    | none => false) && recheck lo ops σ h js
def drws (call : Nat → List Value → Heap → Option (Value × Heap)) (lo : Nat) (ops : List HOper) : List (Nat × List Nat) → List Value → Heap → Option (List Value × Heap)
  | [], σ, h => some (σ, h)
  | (i, js) :: rest, σ, h => match ops[i]? with
    | some o => match step1 call lo o σ h with
      | some (σ', h') => if recheck lo ops σ' h' js then drws call lo ops rest σ' h' else none
      | none => none
    | none => none
def resOf (h : Heap) (σ : List Value) (r : Nat × Option (Option Nat)) : Option Value :=
  match r.2 with
  | none => some (σ.getD r.1 undef)
  | some agg => match σ.getD r.1 undef with
    | .pointer (some ⟨b, o, none⟩) => match agg with
      | none => h.rd1 b o
      | some n => (h.rd b o n).map fun cs => .agg ⟨cs⟩
    | _ => none
def ress (h : Heap) (σ : List Value) : List (Nat × Option (Option Nat)) → Option (List Value)
  | [] => some []
  | r :: rs => match resOf h σ r, ress h σ rs with
    | some v, some vs => some (v :: vs)
    | _, _ => none
def tupled : List Value → Value
  | [v] => v
  | vs => .tuple ⟨vs⟩
def run (F : Nat → Option HFn) (lo : Nat) : Nat → HC → List Value → Heap → Option (Out × List Value × Heap)
  | 0, _, _, _ => none
  | n + 1, c, σ, h =>
    let call : Nat → List Value → Heap → Option (Value × Heap) := fun f vs h =>
      match F f with
      | none => none
      | some fn =>
        match fn.prim with
        | some p => p lo vs h
        | none =>
          match run F lo n fn.body (vs ++ List.replicate (fn.ntmps - vs.length) undef) h with
          | some (.ext _, _, _) => none
          | some (_, σ', h') => (ress h' σ' fn.res).map fun l => (tupled l, h')
          | none => none
    match c with
    | .skip => some (.nrm, σ, h)
    | .ret => some (.ret, σ, h)
    | .exit id => some (.ext id, σ, h)
    | .seq a b => match run F lo n a σ h with
      | some (.nrm, σ', h') => run F lo n b σ' h'
      | r => r
    | .cond c a b => match ev σ c with
      | .bool true => run F lo n a σ h
      | .bool false => run F lo n b σ h
      | _ => none
    | .block id c => match run F lo n c σ h with
      | some (.ext id', σ', h') => if id' = id then some (.nrm, σ', h') else some (.ext id', σ', h')
      | r => r
    | .loop c => match run F lo n c σ h with
      | some (.nrm, σ', h') => run F lo n (.loop c) σ' h'
      | r => r
    | .rgn ops => (rops call lo ops σ h).map fun p => (.nrm, p.1, p.2)
    | .drw ops sched => (drws call lo ops sched σ h).map fun p => (.nrm, p.1, p.2)
/-- A call. -/
def hcall (F : Nat → Option HFn) (lo n : Nat) (f : Nat) (vs : List Value) (h : Heap) : Option (Value × Heap) :=
  match F f with
  | none => none
  | some fn =>
    match fn.prim with
    | some p => p lo vs h
    | none =>
      match run F lo n fn.body (vs ++ List.replicate (fn.ntmps - vs.length) undef) h with
      | some (.ext _, _, _) => none
      | some (_, σ', h') => (ress h' σ' fn.res).map fun l => (tupled l, h')
      | none => none
def heap0 : Heap := ⟨[], 0, [], 0⟩
end Go.Proofs.Ytbjgnogcjglcoaa.Hm
