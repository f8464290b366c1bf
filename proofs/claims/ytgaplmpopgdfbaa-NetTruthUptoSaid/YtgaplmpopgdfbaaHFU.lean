/- The frame of a law whose row asks for a bound on the bulk of what it reads. -/
import Derived.Test.YtgaplmpopgdfbaaA5
import Derived.JoinedCond
import Derived.Deep.CondSized
namespace Go.Proofs.Ytgaplmpopgdfbaa.Hm
open Go Go.RowKit Go.ChangeShapes Go.WideShapes
set_option linter.all false
theorem law_liftedU {C : Checked} {os : Os} {f : FuncId} {fn : Func} {s : ChangeSpec} {so : OpenSpec} {kb : (H : Type) → List (DataW H) → Bool} {G : Stop.Interp} {conds : List PathCond} {D : Type} {enc : TypeId × Value → D} {F : Nat → Option HFn} {ts : List TypeId} {tb : TypeId}
    (hso : so = { OpenSpec.ofChange s with cond := some kb })
    (own : ownKnob C.prog.godebug = none) (started : os.Started) (noInit : C.prog.inits.idxOf? f = none) (hfn : C.prog.funcs[f]? = some fn)
    (witness : ∃ (w : World) (tape : Tape) (i : Input), w.os = os ∧ (w.forCall tape i).Shaped C.prog ∧ i.vars = [] ∧ Input.okWide C.prog (w.forCall tape i) .any w.heap.size f i ∧
      so.pre6 enc C.prog fn conds false (w.forCall tape i).memory i.args ∧ ({} : Assume).holds C.prog (lone (Frame.enter C.prog f i.args .normal) [] (w.forCall tape i)))
    (hvars : s.vars = []) (hres : fn.resultTypes.toList = [tb]) (hb : C.prog.underlying tb = some .bool) (hs : ∀ ds : List (DataW D), ds.length = fn.params.size → s.fn D ds = { results := [.lit (.bool true)], args := ds })
    (hlaid : laidOutB C.prog = true) (hread : (fn.params.toList.all fun t => C.prog.readableRec t && decide (t < C.prog.types.size)) = true)
    (hF : FOK C.prog F) (hmix : C.prog.follows .mixedOrders = true) (hts : closedT C.prog ts = true) (hps : (fn.params.toList.all fun t => ts.contains t) = true)
    (hlaw : ∀ (ds : List (DataW D)) h vs, (∀ b x, h.get b = some x → ∃ cs, x = .row cs none) → h.m = 0 → TAs C.prog h fn.params.toList vs ds → (∀ n ∈ DataW.weightsEach C.prog fn.params.toList ds, n ≤ reachBytes) → kb D ds = true → ∃ n v h', hcall F h.n n f vs h = some (v, h') ∧ v = .bool true) :
    ReturnsInHanded {} C os f .any (so.pre6 enc C.prog fn conds false) ((so.at G).post enc C.prog fn false true false false) := by
  subst hso
  refine returnsInHanded_of_cond_sized (k := kb) rfl own started noInit hfn witness ?_
  intro W base args ds gs before hval hW _ hk hwt _
  replace hW : DataW.Whole enc C.prog fn.params.toList s.vars false W args.toList ds gs before := hW
  show Calls C.prog f args W fun e W' => ∃ v, e = .returned v ∧ s.post enc C.prog fn false true false false W args v W'
  have hW' := hW
  obtain ⟨p, q, hA, hV, rfl, hfz, hnd⟩ := hW
  rw [hvars] at hV
  obtain ⟨rfl, rfl⟩ := trodVars_none hV
  have hlen : ds.length = fn.params.size := by
    have : ∀ (ps : List TypeId) (vs : List Value) (ds : List (DataW D)) (pl : List MemPlace), DataW.TrodAll enc C.prog W 0 (fun _ => true) true ps vs ds pl → ds.length = ps.length := by
      intro ps
      induction ps with
      | nil => intro vs ds pl h; obtain ⟨_, rfl, _⟩ := trodAll_nil h; rfl
      | cons t ps ih =>
        intro vs ds pl h
        obtain ⟨v, vs', d, ds', p, q, rfl, rfl, rfl, _, h2⟩ := trodAll_cons h
        simp [ih _ _ _ h2]
    simpa using this _ _ _ _ hA
  have hlen' : ds.length = fn.params.toList.length := by simpa using hlen
  refine (law_calls (k := f) hF hmix hts hA (fun t ht => List.all_eq_true.1 hps t ht) (fun j t v ht hv => ⟨base, hval j t v (by simpa using ht) (by simpa using hv)⟩) (fun h vs h1 h2 h3 => hlaw ds h vs h1 h2 h3 (fun n hn => ?_) (by rw [List.append_nil] at hk; exact hk))).mono fun e W' ⟨he, bel⟩ => ?_
  · have := List.all_eq_true.1 hwt n (by rw [List.append_nil, weightsEach_app hlen']; exact hn)
    simpa using this
  subst he
  have hsf : s.fn D (ds ++ []) = { results := [.lit (.bool true)], args := ds } := by rw [List.append_nil]; exact hs ds hlen
  refine ⟨_, rfl, ds, [], _, [], p, [], hW', ?_, ?_, ?_, bel.frame _, fun h => by cases h⟩
  · rw [hsf, hres]
    have : (Value.bool true).resultList fn.resultTypes.size = [.bool true] := by
      have : fn.resultTypes.size = 1 := by rw [← Array.length_toList, hres]; rfl
      rw [this]; rfl
    rw [this]
    exact trodAll_mk1 (shut_bool hb _)
  · rw [hsf]; exact trodAll_kept hlaid bel _ _ _ _ hread hA
  · rw [hsf, hvars]; rfl
end Go.Proofs.Ytgaplmpopgdfbaa.Hm
