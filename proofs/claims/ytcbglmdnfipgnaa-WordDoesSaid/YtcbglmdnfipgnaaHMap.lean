/- Own laws: a map literal that the call makes, keyed by integers, with any values: what an entry more and a look-up do, told by the entries themselves. No condition but the ones each law names. -/
import Derived.WalkKit
import Derived.WideMake
import Derived.MapKept
import Derived.Maps.OwnOps
namespace Go.Proofs.Ytcbglmdnfipgnaa.HMap
open Go
section
variable {P : Program} {ops : Array Oper} {rest : List Oper} {o : Oper} {a : Act} {Q : Exit → Act → World → Prop}

theorem heap_top (w : World) (o : Obj) : (w.alloc o).heap[w.heap.size]? = some o := (MapKept.heap_alloc w o).1

theorem set_top (w : World) (o o' : Obj) : ({ w.alloc o with heap := (w.alloc o).heap.setIfInBounds w.heap.size o' } : World) = w.alloc o' := by
  show ({ w with heap := (w.heap.push o).setIfInBounds w.heap.size o' } : World) = { w with heap := w.heap.push o' }
  congr 1
  apply Array.ext
  · simp
  · intro i h1 h2
    simp only [Array.size_setIfInBounds, Array.size_push] at h1
    rw [Array.getElem_setIfInBounds (by simpa using h1)]
    by_cases e : w.heap.size = i
    · subst e; simp
    · have : i < w.heap.size := by omega
      simp [e, Array.getElem_push, this]

theorem run_insert_new {mt kt et : TypeId} {kk : IntKind} (hm : P.underlying mt = some (.map kt et)) (hk : P.underlying kt = some (.int kk)) (w : World) (es : Array MapEntry) (c : Nat) (n : Int) (v : Value)
    (hf : Instr.findNow (.int kk) (.int kk n) es.toList 0 = some none) :
    (Instr.mapUpdate mt (.map (some w.heap.size)) (.int kk n) v).run P (w.alloc (.map es c)) = .ok () (w.alloc (.map (es.push { key := .int kk n, val := v, born := c }) (c + 1))) := by
  have hb := heap_top w (.map es c)
  have hc : (Instr.checkKey false 10000 kt (.int kk n)).run P (w.alloc (.map es c)) = .ok () (w.alloc (.map es c)) := MapKept.run_checkKey (k := .int kk n) hk (by simp [MapKept.IsKey]) false 9999
  have hs := MapKept.run_setObj_map (P := P) (.map (es.push { key := .int kk n, val := v, born := c }) (c + 1)) hb
  rw [set_top] at hs
  simp [Instr.mapUpdate, run_underlying hm, MapKept.run_getObj_map hb, hc, MapKept.run_findKey hk hf, hs, Result.andThen]

/-- What a look-up hands on: the entry's value, or the zero. -/
def pickOf (z : Value) : Option (Nat × Value) → Value
  | some (_, v) => v
  | none => z

theorem run_lookup_top {mt kt et : TypeId} {kk : IntKind} (hm : P.underlying mt = some (.map kt et)) (hk : P.underlying kt = some (.int kk)) (w : World) (es : Array MapEntry) (c : Nat) (n : Int) (z : Value) (hz : (zeroValue et).run P (w.alloc (.map es c)) = .ok z (w.alloc (.map es c)))
    {r : Option (Nat × Value)} (hf : Instr.findNow (.int kk) (.int kk n) es.toList 0 = some r) :
    (Instr.lookup mt (.map (some w.heap.size)) (.int kk n) false).run P (w.alloc (.map es c)) = .ok (pickOf z r) (w.alloc (.map es c)) := by
  have hb := heap_top w (.map es c)
  have hc : (Instr.checkKey es.isEmpty 10000 kt (.int kk n)).run P (w.alloc (.map es c)) = .ok () (w.alloc (.map es c)) := MapKept.run_checkKey (k := .int kk n) hk (by simp [MapKept.IsKey]) _ 9999
  rcases r with _ | ⟨i, v⟩
  · simp [Instr.lookup, run_underlying hm, MapKept.run_getObj_map hb, hc, MapKept.run_findKey hk hf, hz, Result.andThen, pickOf]
  · simp [Instr.lookup, run_underlying hm, MapKept.run_getObj_map hb, hc, MapKept.run_findKey hk hf, Result.andThen, pickOf]

/-- An entry more, at the operation. -/
theorem wpList_insert_new (w : World) (hg : o.guard = none) {mt : TypeId} {m k x : Operand} (hop : o.op = .insert mt m k x) {kt et : TypeId} {kk : IntKind}
    (hm : P.underlying mt = some (.map kt et)) (hk : P.underlying kt = some (.int kk)) {es : Array MapEntry} {c : Nat} {n : Int} {v : Value}
    (ha : a.eval m = .map (some w.heap.size)) (hb : a.eval k = .int kk n) (hv : a.eval x = v) (hf : Instr.findNow (.int kk) (.int kk n) es.toList 0 = some none)
    (h : wpList P ops Q rest (a.put o.dst undef) (w.alloc (.map (es.push { key := .int kk n, val := v, born := c }) (c + 1)))) :
    wpList P ops Q (o :: rest) a (w.alloc (.map es c)) := by
  refine wpList_plain hg fun K' hK' => ?_
  have hrun := run_insert_new (P := P) hm hk w es c n v hf
  unfold Oper.wp
  simp [execOp, hop, ha, hb, hv, hrun, Result.andThen]
  exact hK' _ _ h

/-- A look-up, at the operation. -/
theorem wpList_lookup_top (w : World) (hg : o.guard = none) {mt : TypeId} {m k : Operand} (hop : o.op = .lookup mt m k false) {kt et : TypeId} {kk : IntKind}
    (hm : P.underlying mt = some (.map kt et)) (hk : P.underlying kt = some (.int kk)) {es : Array MapEntry} {c : Nat} {n : Int} {z : Value}
    (ha : a.eval m = .map (some w.heap.size)) (hb : a.eval k = .int kk n) (hz : (zeroValue et).run P (w.alloc (.map es c)) = .ok z (w.alloc (.map es c)))
    {r : Option (Nat × Value)} (hf : Instr.findNow (.int kk) (.int kk n) es.toList 0 = some r)
    (h : wpList P ops Q rest (a.put o.dst (pickOf z r)) (w.alloc (.map es c))) :
    wpList P ops Q (o :: rest) a (w.alloc (.map es c)) := by
  refine wpList_plain hg fun K' hK' => ?_
  have hrun := run_lookup_top (P := P) hm hk w es c n z hz hf
  unfold Oper.wp
  simp [execOp, hop, ha, hb, hrun, Result.andThen]
  exact hK' _ _ h
theorem gate_insert {W : World} {mt : TypeId} {m k x : Operand} (_ho : o.op = .insert mt m k x) (h : wpList P ops Q (o :: rest) a W) : wpList P ops Q (o :: rest) a W := h
theorem gate_lookup {W : World} {mt : TypeId} {m k : Operand} {b : Bool} (_ho : o.op = .lookup mt m k b) (h : wpList P ops Q (o :: rest) a W) : wpList P ops Q (o :: rest) a W := h
theorem gate_value {W : World} {t : Tmp} {as : Array Operand} {ts : Array TypeId} (_ho : o.op = .call { callee := .value (.tmp t), args := as, argTypes := ts }) (h : wpList P ops Q (o :: rest) a W) : wpList P ops Q (o :: rest) a W := h

/-- A call through a function value that holds a function of the program. -/
theorem goesV_ {w : World} (N : Option Tmp) (hd : o.dst = N) (hg : o.guard = none) {f : FuncId} {fn : Func} {as : Array Operand} {ts : Array TypeId} (hf : P.funcs[f]? = some fn) (hname : (fn.name == "runtime.NumGoroutine") = false) (hb : fn.body.isSome = true)
    {c : Operand} (hv : a.eval c = .func (.func f) #[] #[]) (args : Array Value)
    (hop : o.op = .call { callee := .value c, args := as, argTypes := ts }) (hargs : as.map a.eval = args)
    (h : Calls P f args w fun e w' => ∃ v, e = .returned v ∧ wpList P ops Q rest (a.put N v) w') : wpList P ops Q (o :: rest) a w := by
  refine wpList_plain hg fun K hK => ?_
  have h1 : fn.name ≠ "runtime.NumGoroutine" := by simpa using hname
  obtain ⟨c0, hc⟩ := Option.isSome_iff_exists.1 hb
  have he : (callFunc f args).run P w = .ok (.enter f args) w := by simp [callFunc, hf, h1, hc]
  have hrun : (execOp a.eval o).run P w = .ok (.enter f args) w := by
    unfold execOp
    simp [hop, resolve, Deferred.ofValue, invoke, hv, hargs, he]
  unfold Oper.wp
  rw [hrun, Oper.upon_enter]
  refine h.mono fun e w'' hh => ?_
  obtain ⟨v, rfl, hk⟩ := hh
  subst hd
  exact hK _ _ hk
end
end Go.Proofs.Ytcbglmdnfipgnaa.HMap
