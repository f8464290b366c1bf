/- awake, run by H; the laws' table. -/
import Derived.Test.YtgaplmpopgdfbaaHG0
namespace Go.Proofs.Ytgaplmpopgdfbaa.Hm
open Go Go.RowKit
theorem aw11 : tells FA 400 11 true = true := by decide +kernel
theorem aw11_calls (w : World) : Calls Try.prog 11 #[] w fun e w' => e = .returned (.bool true) ∧ Below w.heap.size w w' := calls_closed fokA mixed aw11 w
theorem fok : FOK Try.prog F := by
  intro k fn h
  unfold F at h
  split at h
  · cases h; exact .inl is4
  · cases h; exact .inl is5
  · cases h; exact .inl is6
  · cases h; exact .inl is7
  · cases h; exact .inl is9
  · cases h; exact .inl is10
  · cases h; exact .inr ⟨primTrue, rfl, primTrue_ok is11 aw11_calls⟩
  · cases h; exact .inl is13
  · cases h; exact .inl is15
  · cases h; exact .inl is16
  · cases h; exact .inl is18
  · cases h; exact .inl is20
  · cases h; exact .inl is22
  · cases h; exact .inl is23
  · cases h; exact .inl is24
  · cases h; exact .inl is25
  · cases h; exact .inl is26
  · cases h; exact .inl is27
  · cases h; exact .inl is28
  · cases h; exact .inl is29
  · cases h; exact .inl is30
  · cases h; exact .inl is31
  · cases h; exact .inl is32
  · cases h; exact .inl is33
  · cases h; exact .inl is34
  · cases h; exact .inl is35
  · cases h; exact .inl is36
  · cases h; exact .inl is37
  · cases h; exact .inl is38
  · cases h; exact .inl is39
  · cases h; exact .inl is43
  · cases h; exact .inl is45
  · cases h; exact .inl is48
  · cases h; exact .inl is49
  · cases h; exact .inl is50
  · cases h; exact .inl is51
  · cases h; exact .inl is52
  · cases h; exact .inl is54
  · cases h; exact .inl is57
  · cases h; exact .inl is58
  · cases h; exact .inl is59
  · cases h; exact .inl is60
  · cases h; exact .inl is61
  · cases h; exact .inl is62
  · cases h; exact .inl is63
  · cases h; exact .inl is64
  · cases h; exact .inl is65
  · cases h; exact .inl is66
  · cases h; exact .inl is82
  · cases h; exact .inl is83
  · cases h; exact .inl is88
  · cases h; exact .inl is89
  · cases h; exact .inl is90
  · cases h
end Go.Proofs.Ytgaplmpopgdfbaa.Hm
