/- The translation of the given form's code into H's code: what it takes, it takes with the program's own tables; what it does not know, it refuses. -/
import Derived.Test.YtbjgnogcjglcoaaHD
namespace Go.Proofs.Ytbjgnogcjglcoaa.Hm
open Go
set_option linter.all false

def guardO (b : Bool) : Option Unit := if b then some () else none
def sizeT (P : Program) (t : TypeId) : Option Nat := (P.info? t).map (·.size)
def bytesT (P : Program) (t : TypeId) : Option Nat := (P.info? t).map (·.bytes)
def zeroT (P : Program) (t : TypeId) : Option Value := (P.info? t).bind (·.zero)
def aggT (P : Program) (t : TypeId) : Option (Option Nat) :=
  match P.underlying t with
  | some (.struct _) | some (.array _ _) => (sizeT P t).map some
  | some _ => some none
  | none => none
def isPtr0 (P : Program) (t : TypeId) : Bool :=
  match P.underlying t with
  | some (.int _) | some .bool | some .string => true
  | _ => false
/-- Where the cells lie that '==' of a type compares. -/
def leavesF (P : Program) (f : TypeId → Nat → Option (List (Nat × PK))) (base size : Nat) : List Field → Option (List (Nat × PK))
  | [] => some []
  | x :: xs => if x.name = "_" then none else
    match sizeT P x.type with
    | some s => if x.offset + s ≤ size ∧ 0 < s then
        match f x.type (base + x.offset), leavesF P f base size xs with
        | some a, some b => some (a ++ b)
        | _, _ => none
      else none
    | none => none
def leavesA (f : Nat → Option (List (Nat × PK))) (base s : Nat) : Nat → Nat → Option (List (Nat × PK))
  | _, 0 => some []
  | i, n + 1 => match f (base + i * s), leavesA f base s (i + 1) n with
    | some a, some b => some (a ++ b)
    | _, _ => none
def leaves (P : Program) : Nat → TypeId → Nat → Option (List (Nat × PK))
  | 0, _, _ => none
  | d + 1, t, base =>
    match P.underlying t with
    | some .bool => some [(base, .bool)]
    | some (.int _) => some [(base, .int)]
    | some .string => some [(base, .str)]
    | some (.struct fs) => if P.stoodInHeld t then none else
      match sizeT P t with
      | some n => leavesF P (leaves P d) base n fs.toList
      | none => none
    | some (.array len elem) => match sizeT P elem, sizeT P t with
      | some s, some n => if len * s ≤ n ∧ 0 < s then leavesA (leaves P d elem) base s 0 len else none
      | _, _ => none
    | _ => none
def eqT (P : Program) (t : TypeId) : Option EqD :=
  match P.underlying t with
  | some .bool => some (.prim .bool)
  | some (.int _) => some (.prim .int)
  | some .string => some (.prim .str)
  | some (.slice _) => some (.nil .slice)
  | some (.map _ _) => some (.nil .map)
  | some (.func _ _ _) => some (.nil .func)
  | some (.pointer _) => some (.nil .ptr)
  | some (.interface _) => some (.nil .iface)
  | some (.struct _) | some (.array _ _) => if P.eqGuardType P.depth t then none else
    match sizeT P t, leaves P 20 t 0 with
    | some n, some l => some (.cells n l)
    | _, _ => none
  | _ => none
def keyT (P : Program) (t : TypeId) : Option EqD :=
  match eqT P t with
  | some (.prim k) => some (.prim k)
  | some (.cells n l) => if l.map (·.1) = List.range n then some (.cells n l) else none
  | _ => none
def partsL (f : Nat → Option (Nat × Nat)) : List (Nat × Operand) → Option (List (Nat × Nat × Operand))
  | [] => some []
  | (i, x) :: ps => match f i, partsL f ps with
    | some (o, s), some r => if okOp x then some ((o, s, x) :: r) else none
    | _, _ => none
def notTup : Value → Bool
  | .tuple _ => false
  | _ => true
def okOps (xs : List Operand) : Bool := xs.all okOp
/-- Is the operand math/bits.Add64, which has no text? -/
def isAdd64 (P : Program) : Operand → Bool
  | .func f => match P.funcs[f]? with
    | some fn => fn.body.isNone && (fn.name == "math/bits.Add64" && fn.origin == "")
    | none => false
  | _ => false
def compOp (P : Program) (type : TypeId) : Op → Option HOp
  | .move x | .assign x => if okOp x then some (.mv x) else none
  | .pick c a b => if okOps [c, a, b] then some (.pick c a b) else none
  | .alloc t => match zeroT P t with
    | some z => if plainV z ∧ notTup z = true then some (.alloc z.cells.toList) else none
    | none => none
  | .box t x => if okOp x then some (.box x) else none
  | .build t parts => match zeroT P t with
    | none => none
    | some z => if plainV z ∧ notTup z = true then
        match P.underlying t with
        | some (.struct fs) => if !(fs.toList.all fun f => (sizeT P f.type).isSome) then none else (partsL (fun i => match fs[i]? with
            | some f => (sizeT P f.type).map (f.offset, ·)
            | none => none) parts.toList).map (.build z.cells.toList ·)
        | some (.array _ elem) => match sizeT P elem with
          | some s => (partsL (fun i => some (i * s, s)) parts.toList).map (.build z.cells.toList ·)
          | none => none
        | _ => none
      else none
  | .buildSlice t len parts => match P.underlying t with
    | some (.slice elem) => match sizeT P elem, zeroT P elem with
      | some s, some z => if plainV z ∧ notTup z = true ∧ z.cells.size = s ∧ 0 < s ∧ len * s ≤ 2 ^ 24 ∧ okOps (parts.toList.map (·.2)) then some (.bslice s len z.cells.toList parts.toList) else none
      | _, _ => none
    | _ => none
  | .load t a => if okOp a then match sizeT P t, aggT P t with
      | some _, some g => some (.load g a)
      | _, _ => none
    else none
  | .store t a x => if okOps [a, x] then (sizeT P t).map (.store · a x) else none
  | .nilCheck x => if okOp x then some (.nilchk x) else none
  | .binOp op xt x y _ => if okOps [x, y] then
      match op with
      | .eql => match P.underlying xt with
        | some (.int _) | some .string => some (.bin op x y)
        | _ => (eqT P xt).map (.eq false · x y)
      | .neq => match P.underlying xt with
        | some (.int _) | some .string => some (.bin op x y)
        | _ => (eqT P xt).map (.eq true · x y)
      | _ => some (.bin op x y)
    else none
  | .unOp op _ x => if okOp x then some (.un op x) else none
  | .convert s d x => if okOp x then
      match P.underlying s, P.underlying d with
      | some (.int _), some (.int k) => some (.convI k x)
      | _, _ => none
    else none
  | .slice t x lo hi mx => if okOps (x :: (lo.toList ++ hi.toList ++ mx.toList)) && (mx.isNone || hi.isSome) then
      match P.underlying t with
      | some (.slice elem) => (sizeT P elem).map (.slice · x lo hi mx)
      | some (.array n elem) => (sizeT P elem).map (.slicea n · x lo hi mx)
      | some .string => if mx.isNone then some (.slices x lo hi) else none
      | _ => none
    else none
  | .fieldAddr s x f => if okOp x then
      match P.underlying s with
      | some (.struct fs) => match fs[f]? with
        | some f => match sizeT P f.type with
          | some n => if n = 0 then none else some (.faddr f.offset x)
          | none => none
        | none => none
      | _ => none
    else none
  | .field s x f => if okOp x then
      match P.underlying s with
      | some (.struct fs) => match fs[f]? with
        | some f => match sizeT P f.type, aggT P f.type with
          | some _, some g => some (.field f.offset g x)
          | _, _ => none
        | none => none
      | _ => none
    else none
  | .indexAddr t x i => if okOps [x, i] then
      match P.underlying t with
      | some (.slice elem) => (sizeT P elem).map (.iaddr · x i)
      | some (.array n elem) => (sizeT P elem).map (.iaddra n · x i)
      | _ => none
    else none
  | .index t x i => if okOps [x, i] then
      match P.underlying t with
      | some (.array n elem) => match sizeT P elem, aggT P elem with
        | some s, some g => some (.index n s g x i)
        | _, _ => none
      | some .string => some (.indexs x i)
      | _ => none
    else none
  | .lookup t m k ok => if okOps [m, k] then
      match P.underlying t with
      | some (.map kt et) => match keyT P kt, zeroT P et with
        | some d, some z => if plainV z then some (.lookup d z m k ok) else none
        | _, _ => none
      | _ => none
    else none
  | .mapUpdate t m k x | .insert t m k x => if okOps [m, k, x] then
      match P.underlying t with
      | some (.map kt _) => (keyT P kt).map (.mput · m k x)
      | _ => none
    else none
  | .makeMap t none => some .mkmap
  | .extract x i => if okOp x then some (.extract x i) else none
  | .makeFunc (.func f) a c => if okOps (a.toList ++ c.toList) then some (.mkfunc f a.toList c.toList) else none
  | .makeSlice t l c => if okOps [l, c] then
      match P.underlying t with
      | some (.slice elem) => match sizeT P elem, bytesT P elem, zeroT P elem with
        | some s, some b, some z => if plainV z ∧ z.cells.size = s ∧ 0 < s ∧ 0 < b ∧ notTup z = true then some (.mkslice s b z.cells.toList l c) else none
        | _, _, _ => none
      | _ => none
    else none
  | .call ⟨.builtin .append, args, ats⟩ => match args.toList, ats.toList with
    | [s, x], [st, xt] => if okOps [s, x] then
        match P.underlying st, P.underlying xt with
        | some (.slice elem), some (.slice _) => match sizeT P elem, bytesT P elem with
          | some z, some b => if 0 < z ∧ 0 < b ∧ ((zeroT P elem).any fun q => q.cells.size == z) = true then some (.append z b s x) else none
          | _, _ => none
        | _, _ => none
      else none
    | _, _ => none
  | .call ⟨.builtin .len, args, ats⟩ => match args.toList, ats.toList with
    | [x], [t] => if okOp x then
        match P.underlying t with
        | some .string => some (.lens x)
        | some (.slice _) => some (.len x)
        | some (.map _ _) => some (.lenm x)
        | some (.array n _) => some (.lena n x)
        | _ => none
      else none
    | _, _ => none
  | .call ⟨.value f, args, _⟩ => if okOps (f :: args.toList) then
      if isAdd64 P f then match args.toList with
        | [x, y, z] => some (.add64 f x y z)
        | _ => none
      else some (.call f args.toList)
    else none
  | _ => none
/-- Of an operation, what a region needs to know: does it only look at its operands; does it read memory; does it make a block; does it write. -/
inductive Kd where
  | pur | lod | alc | eff
  deriving DecidableEq
def HOp.kd : HOp → Kd
  | .load _ _ | .lookup _ _ _ _ _ | .lenm _ => .lod
  | .alloc _ | .box _ | .bslice _ _ _ _ | .mkslice _ _ _ _ _ | .mkmap => .alc
  | .store _ _ _ | .mput _ _ _ _ | .append _ _ _ _ | .call _ _ => .eff
  | _ => .pur
def compOper (P : Program) (ops : Array Oper) (o : Oper) : Option HOper :=
  match compOp P o.type o.op with
  | none => none
  | some op => match o.guard with
    | none => some ⟨o.dst, op, none⟩
    | some (j, b) => match (ops[j]?).bind (·.dst) with
      | some d => some ⟨o.dst, op, some (d, b)⟩
      | none => none
def compOps (P : Program) (ops : Array Oper) : List Oper → Option (List HOper)
  | [] => some []
  | o :: os => match compOper P ops o, compOps P ops os with
    | some a, some b => some (a :: b)
    | _, _ => none
/-! ### regions that draw: an order, all quiet operations as early as they can be -/
def HOp.reads : HOp → List Operand
  | .mv x | .box x | .load _ x | .nilchk x | .un _ x | .convI _ x | .faddr _ x | .field _ _ x | .lenm x | .extract x _ | .len x | .lens x | .lena _ x => [x]
  | .pick a b c => [a, b, c]
  | .alloc _ | .mkmap => []
  | .build _ ps => ps.map (·.2.2)
  | .bslice _ _ _ ps => ps.map (·.2)
  | .store _ a x | .bin _ a x | .eq _ _ a x | .iaddr _ a x | .iaddra _ _ a x | .index _ _ _ a x | .indexs a x | .append _ _ a x | .mkslice _ _ _ a x => [a, x]
  | .slice _ x a b c | .slicea _ _ x a b c => x :: (a.toList ++ b.toList ++ c.toList)
  | .slices x a b => x :: (a.toList ++ b.toList)
  | .lookup _ _ m k _ => [m, k]
  | .mput _ m k x => [m, k, x]
  | .mkfunc _ a c => a ++ c
  | .call f xs => f :: xs
  | .add64 f x y z => [f, x, y, z]
def tmpsOf (xs : List Operand) : List Nat := xs.filterMap fun | .tmp t => some t | _ => none
def HOper.names (o : HOper) : List Nat := tmpsOf o.op.reads ++ (match o.guard with | some (t, _) => [t] | none => [])
/-- What is asked of others before an operation. -/
def onsOf (o : Oper) : List Nat := o.after.toList.filterMap fun e => if Region.binds .any e then some e.on else none
/-- Of each operation all that must come before it. -/
def befs (ops : List Oper) : List (List Nat) :=
  ops.foldl (fun acc o => acc ++ [((onsOf o) ++ (onsOf o).flatMap fun j => acc.getD j []).eraseDups]) []
def nameOf (ops : List HOper) (i : Nat) : List Nat := match ops[i]? with
  | some o => o.names
  | none => []
def dstOf (ops : List HOper) (i : Nat) : Option Nat := (ops[i]?).bind (·.dst)
def kdOf (ops : List HOper) (i : Nat) : Kd := match ops[i]? with
  | some o => o.op.kd
  | none => .eff
/-- Is the operation one that others must not pass: it makes a block, or writes, or writes a slot that an operation that need not be behind it names? -/
def isEff (ops : List HOper) (bef : List (List Nat)) (i : Nat) : Bool :=
  kdOf ops i == .eff || (match dstOf ops i with
    | some d => (nameOf ops i).contains d || (List.range ops.length).any fun j => j != i && (nameOf ops j).contains d && !((bef.getD j []).contains i)
    | none => false)
def early (effs : List Bool) (bef : List (List Nat)) : Nat → List Nat → List Nat → List Nat
  | 0, _, acc => acc.reverse
  | f + 1, left, acc =>
    match left.find? fun i => !(effs.getD i true) && (bef.getD i []).all acc.contains with
    | some i => early effs bef f (left.filter (· != i)) (i :: acc)
    | none => match left.find? fun i => (bef.getD i []).all acc.contains with
      | some i => early effs bef f (left.filter (· != i)) (i :: acc)
      | none => acc.reverse
def effsOf (ops : List HOper) (bef : List (List Nat)) : List Bool := (List.range ops.length).map (isEff ops bef)
def schedOf (ops : List HOper) (bef : List (List Nat)) : List (Nat × List Nat) :=
  let effs := effsOf ops bef
  let ord := early effs bef (2 * ops.length + 1) (List.range ops.length) []
  (ord.zipIdx).map fun (i, p) =>
    (i, if effs.getD i true then (ord.take p).filter fun j => kdOf ops j == .lod && !((bef.getD i []).contains j) else [])
/-- The order is one in which all quiet operations come as early as they can; what is asked of it, checked. -/
def schedOK (ops : List Oper) (l : List HOper) (bef : List (List Nat)) (effs : List Bool) : List Nat → List (Nat × List Nat) → Bool
  | done, [] => (List.range l.length).all done.contains
  | done, (i, js) :: rest =>
    i < l.length && !(done.contains i) && (bef.getD i []).all done.contains &&
    (effs.getD i true || (js.isEmpty && kdOf l i != .eff && !((nameOf l i).any fun t => dstOf l i == some t))) &&
    -- behind an operation that others must not pass: all that stand on it
    (!(effs.getD i true) || (rest.all fun p => (bef.getD p.1 []).contains i)) &&
    (!(effs.getD i true) || (done.all fun j => kdOf l j != .lod || effs.getD j true || (bef.getD i []).contains j || js.contains j)) &&
    schedOK ops l bef effs (i :: done) rest
def befOK (ops : List Oper) (bef : List (List Nat)) : Bool :=
  (List.range ops.length).all fun i => match ops[i]? with
    | some o => (onsOf o).all (fun j => (bef.getD i []).contains j && decide (j < i)) && (bef.getD i []).all fun j => (onsOf o).any fun k => k == j || (bef.getD k []).contains j
    | none => false
def namesOK (l : List HOper) (bef : List (List Nat)) (effs : List Bool) : Bool :=
  (List.range l.length).all fun i => (List.range l.length).all fun j => i == j || (match dstOf l j with
    | some d => dstOf l i != some d && (!((nameOf l i).contains d) || (bef.getD i []).contains j || ((bef.getD j []).contains i && effs.getD j true))
    | none => true)
def comp (P : Program) : Code → Option HC
  | .skip => some .skip
  | .label _ => some .skip
  | .ret => some .ret
  | .exit id => some (.exit id)
  | .seq a b => match comp P a, comp P b with
    | some x, some y => some (.seq x y)
    | _, _ => none
  | .cond c a b => if okOp c then match comp P a, comp P b with
      | some x, some y => some (.cond c x y)
      | _, _ => none
    else none
  | .block id c => (comp P c).map (.block id)
  | .loop c => (comp P c).map .loop
  | .scope c => comp P c
  | .region _ ops draw => match compOps P ops ops.toList with
    | none => none
    | some l => if draw then
        let bef := befs ops.toList
        let effs := effsOf l bef
        let sched := schedOf l bef
        if schedOK ops.toList l bef effs [] sched && befOK ops.toList bef && namesOK l bef effs then some (.drw l sched) else none
      else some (.rgn l)
  | _ => none
def compRes (P : Program) : List ResultVar → Option (List (Nat × Option (Option Nat)))
  | [] => some []
  | .tmp t :: rs => (compRes P rs).map ((t, none) :: ·)
  | .cell a t :: rs => match sizeT P t, aggT P t, compRes P rs with
    | some _, some g, some l => some ((a, some g) :: l)
    | _, _, _ => none
def compFn (P : Program) (k : Nat) : Option HFn :=
  match P.funcs[k]? with
  | none => none
  | some fn => if fn.name = "runtime.NumGoroutine" then none else
    match fn.body with
    | none => none
    | some c => match comp P c, compRes P fn.results.toList with
      | some b, some r => some { ntmps := fn.ntmps, res := r, body := b }
      | _, _ => none
end Go.Proofs.Ytbjgnogcjglcoaa.Hm
