/- A call of the library's sort of edges, a growing slice lent to it. -/
import Derived.Test.YtbjgnogcjglcoaaVK1
import Derived.Test.YtbjgnogcjglcoaaSK4
namespace Go.Proofs.Ytbjgnogcjglcoaa.Hm.V
open Go
set_option linter.all false
theorem decT_of : ∀ l : List FT, decT (flatT l) = some l
  | [] => rfl
  | ⟨(a, b, c), hx⟩ :: l => by
    have ih := decT_of l
    show decT (.int .i64 a :: .int .i64 b :: .int .i64 c :: flatT l) = _
    rw [decT, dif_pos hx, ih]; rfl
/-- Sorted. -/
theorem sort_call {F : Nat → Option HFn} {lo k g : Nat} {Z : Vw} {fn : HFn} {v : Value} {l : List FT} (hF : F k = some fn) (hp : fn.prim = some (sortP g)) (hlen : l.length < 4611686018427387904) :
    Call1 F lo k [v, .func (.func g) #[] #[]] Z (.gro v 3 (l.map encT)) fun r _ o' => r = .tuple #[] ∧ o' = .gro v 3 ((l.mergeSort leT).map encT) := by
  intro R h m
  have m : Mem lo Z (.gro v 3 (l.map encT) :: R) h := m
  cases l with
  | nil =>
    obtain ⟨h5, he, ⟨rfl, _⟩ | ⟨b, c, fl, rfl, h1, h2, h3, h4⟩ | ⟨b, rfl, h1, h2⟩⟩ := m.own _ List.mem_cons_self
    all_goals
      refine ⟨0, .tuple #[], h, Z, [_], ?_, .refl _, m, _, rfl, rfl, by simp⟩
      unfold hcall
      rw [hF]
      simp only [hp]
      simp [sortP]
  | cons x l =>
    have hl2 : ((x :: l).mergeSort leT).length = (x :: l).length := List.length_mergeSort _
    obtain ⟨b, sp, cp, rfl, hrd, h', hw, m'⟩ := gro_whole m (xs' := ((x :: l).mergeSort leT).map encT) (by simp [hl2]) (fun y hy => by obtain ⟨z, _, rfl⟩ := List.mem_map.1 hy; rfl) (by simp)
    refine ⟨0, .tuple #[], h', Z, [_], ?_, .refl _, m', _, rfl, rfl, rfl⟩
    unfold hcall
    rw [hF]
    simp only [hp, sortP]
    rw [List.length_map] at hrd ⊢
    have hd : decT ((x :: l).map encT).flatten = some (x :: l) := decT_of (x :: l)
    have hw2 : h.wr lo b 0 (flatT ((x :: l).mergeSort leT)) = some h' := hw
    rw [if_pos (by simp), if_neg (by simp), if_pos hlen]
    simp only [hrd, hd, hw2, Option.map_some]
end Go.Proofs.Ytbjgnogcjglcoaa.Hm.V
