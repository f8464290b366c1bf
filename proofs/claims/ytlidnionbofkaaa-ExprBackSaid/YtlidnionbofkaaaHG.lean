import Derived.Test.YtlidnionbofkaaaHG0
namespace Go.Proofs.Ytlidnionbofkaaa.Hm
open Go Go.RowKit
theorem awT10 : tellsT FA 3000 10 true = true := by decide +kernel
theorem aw10 : tells FA 3000 10 true = true := tellsT_ok awT10
theorem aw10_calls (w : World) : Calls Try.prog 10 #[] w fun e w' => e = .returned (.bool true) ∧ Below w.heap.size w w' := calls_closed fokA mixed aw10 w
theorem fok : FOK Try.prog F := by
  intro k fn h
  unfold F at h
  split at h
  · cases h; exact .inl is3
  · cases h; exact .inl is4
  · cases h; exact .inl is5
  · cases h; exact .inl is6
  · cases h; exact .inl is7
  · cases h; exact .inl is8
  · cases h; exact .inl is9
  · cases h; exact .inr (.inl ⟨rfl, primTrue, rfl, primTrue_ok is10 aw10_calls⟩)
  · cases h; exact .inl is11
  · cases h; exact .inr (.inr (.inr ⟨_, rfl, isD12⟩))
  · cases h; exact .inl is13
  · cases h; exact .inl is14
  · cases h; exact .inl is15
  · cases h; exact .inl is16
  · cases h; exact .inl is17
  · cases h; exact .inl is18
  · cases h; exact .inl is19
  · cases h; exact .inl is20
  · cases h; exact .inl is21
  · cases h; exact .inl is22
  · cases h; exact .inl is23
  · cases h; exact .inl is24
  · cases h; exact .inl is25
  · cases h; exact .inl is26
  · cases h; exact .inl is27
  · cases h; exact .inl is28
  · cases h; exact .inl is29
  · cases h; exact .inl is30
  · cases h; exact .inl is31
  · cases h; exact .inl is32
  · cases h; exact .inl is34
  · cases h; exact .inl is35
  · cases h; exact .inl is36
  · cases h; exact .inl is37
  · cases h; exact .inl is38
  · cases h; exact .inl is40
  · cases h; exact .inl is41
  · cases h; exact .inl is42
  · cases h; exact .inl is43
  · cases h; exact .inl is44
  · cases h; exact .inl is45
  · cases h; exact .inl is46
  · cases h; exact .inl is47
  · cases h; exact .inl is48
  · cases h; exact .inl is49
  · cases h; exact .inl is50
  · cases h; exact .inl is51
  · cases h; exact .inl is52
  · cases h; exact .inl is53
  · cases h; exact .inl is54
  · cases h; exact .inl is55
  · cases h; exact .inl is56
  · cases h; exact .inl is57
  · cases h; exact .inl is58
  · cases h; exact .inl is59
  · cases h; exact .inl is60
  · cases h; exact .inl is61
  · cases h; exact .inl is62
  · cases h; exact .inl is63
  · cases h; exact .inl is64
  · cases h; exact .inl is65
  · cases h; exact .inl is66
  · cases h; exact .inl is67
  · cases h; exact .inl is68
  · cases h; exact .inl is69
  · cases h; exact .inl is70
  · cases h; exact .inl is71
  · cases h; exact .inl is72
  · cases h; exact .inl is73
  · cases h; exact .inl is74
  · cases h; exact .inl is75
  · cases h; exact .inl is76
  · cases h; exact .inl is77
  · cases h; exact .inl is78
  · cases h; exact .inl is79
  · cases h; exact .inl is80
  · cases h; exact .inl is81
  · cases h; exact .inl is82
  · cases h; exact .inl is83
  · cases h; exact .inl is84
  · cases h; exact .inl is85
  · cases h; exact .inl is86
  · cases h; exact .inl is87
  · cases h; exact .inl is88
  · cases h; exact .inl is89
  · cases h; exact .inl is90
  · cases h; exact .inl is91
  · cases h; exact .inl is92
  · cases h; exact .inl is93
  · cases h; exact .inl is94
  · cases h; exact .inl is95
  · cases h; exact .inl is96
  · cases h; exact .inl is97
  · cases h; exact .inl is98
  · cases h; exact .inl is99
  · cases h; exact .inl is100
  · cases h; exact .inl is101
  · cases h; exact .inl is102
  · cases h; exact .inl is103
  · cases h; exact .inl is104
  · cases h; exact .inl is105
  · cases h; exact .inl is106
  · cases h; exact .inl is107
  · cases h; exact .inl is108
  · cases h; exact .inl is109
  · cases h; exact .inl is110
  · cases h; exact .inl is111
  · cases h; exact .inl is112
  · cases h; exact .inl is113
  · cases h; exact .inl is114
  · cases h; exact .inl is115
  · cases h; exact .inl is116
  · cases h; exact .inl is117
  · cases h; exact .inl is118
  · cases h
end Go.Proofs.Ytlidnionbofkaaa.Hm
