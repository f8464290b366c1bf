import Derived.Test.YtlidnionbofkaaaHF
import Derived.Test.YtlidnionbofkaaaA4
import Derived.Test.YtlidnionbofkaaaChecked
import Derived.Eval
import Derived.KernelRfl
namespace Go.Proofs.Ytlidnionbofkaaa.Hm
open Go Go.RowKit
theorem isD12 : compD Try.prog 12 = some d12 := by kernel_rfl
theorem is3 : compFn Try.prog 3 = some c3 := by kernel_rfl
theorem is4 : compFn Try.prog 4 = some c4 := by kernel_rfl
theorem is5 : compFn Try.prog 5 = some c5 := by kernel_rfl
theorem is6 : compFn Try.prog 6 = some c6 := by kernel_rfl
theorem is7 : compFn Try.prog 7 = some c7 := by kernel_rfl
theorem is8 : compFn Try.prog 8 = some c8 := by kernel_rfl
theorem is9 : compFn Try.prog 9 = some c9 := by kernel_rfl
theorem is10 : compFn Try.prog 10 = some c10 := by kernel_rfl
theorem is11 : compFn Try.prog 11 = some c11 := by kernel_rfl
theorem is13 : compFn Try.prog 13 = some c13 := by kernel_rfl
theorem is14 : compFn Try.prog 14 = some c14 := by kernel_rfl
theorem is15 : compFn Try.prog 15 = some c15 := by kernel_rfl
theorem is16 : compFn Try.prog 16 = some c16 := by kernel_rfl
theorem is17 : compFn Try.prog 17 = some c17 := by kernel_rfl
theorem is18 : compFn Try.prog 18 = some c18 := by kernel_rfl
theorem is19 : compFn Try.prog 19 = some c19 := by kernel_rfl
theorem is20 : compFn Try.prog 20 = some c20 := by kernel_rfl
theorem is21 : compFn Try.prog 21 = some c21 := by kernel_rfl
theorem is22 : compFn Try.prog 22 = some c22 := by kernel_rfl
theorem is23 : compFn Try.prog 23 = some c23 := by kernel_rfl
theorem is24 : compFn Try.prog 24 = some c24 := by kernel_rfl
theorem is25 : compFn Try.prog 25 = some c25 := by kernel_rfl
theorem is26 : compFn Try.prog 26 = some c26 := by kernel_rfl
theorem is27 : compFn Try.prog 27 = some c27 := by kernel_rfl
theorem is28 : compFn Try.prog 28 = some c28 := by kernel_rfl
theorem is29 : compFn Try.prog 29 = some c29 := by kernel_rfl
theorem is30 : compFn Try.prog 30 = some c30 := by kernel_rfl
theorem is31 : compFn Try.prog 31 = some c31 := by kernel_rfl
theorem is32 : compFn Try.prog 32 = some c32 := by kernel_rfl
theorem is33 : compFn Try.prog 33 = some c33 := by kernel_rfl
theorem is34 : compFn Try.prog 34 = some c34 := by kernel_rfl
theorem is35 : compFn Try.prog 35 = some c35 := by kernel_rfl
theorem is36 : compFn Try.prog 36 = some c36 := by kernel_rfl
theorem is37 : compFn Try.prog 37 = some c37 := by kernel_rfl
theorem is38 : compFn Try.prog 38 = some c38 := by kernel_rfl
theorem is40 : compFn Try.prog 40 = some c40 := by kernel_rfl
theorem is41 : compFn Try.prog 41 = some c41 := by kernel_rfl
theorem is42 : compFn Try.prog 42 = some c42 := by kernel_rfl
theorem is43 : compFn Try.prog 43 = some c43 := by kernel_rfl
theorem is44 : compFn Try.prog 44 = some c44 := by kernel_rfl
theorem is45 : compFn Try.prog 45 = some c45 := by kernel_rfl
theorem is46 : compFn Try.prog 46 = some c46 := by kernel_rfl
theorem is47 : compFn Try.prog 47 = some c47 := by kernel_rfl
theorem is48 : compFn Try.prog 48 = some c48 := by kernel_rfl
theorem is49 : compFn Try.prog 49 = some c49 := by kernel_rfl
theorem is50 : compFn Try.prog 50 = some c50 := by kernel_rfl
theorem is51 : compFn Try.prog 51 = some c51 := by kernel_rfl
theorem is52 : compFn Try.prog 52 = some c52 := by kernel_rfl
theorem is53 : compFn Try.prog 53 = some c53 := by kernel_rfl
theorem is54 : compFn Try.prog 54 = some c54 := by kernel_rfl
theorem is55 : compFn Try.prog 55 = some c55 := by kernel_rfl
theorem is56 : compFn Try.prog 56 = some c56 := by kernel_rfl
theorem is57 : compFn Try.prog 57 = some c57 := by kernel_rfl
theorem is58 : compFn Try.prog 58 = some c58 := by kernel_rfl
theorem is59 : compFn Try.prog 59 = some c59 := by kernel_rfl
theorem is60 : compFn Try.prog 60 = some c60 := by kernel_rfl
theorem is61 : compFn Try.prog 61 = some c61 := by kernel_rfl
theorem is62 : compFn Try.prog 62 = some c62 := by kernel_rfl
theorem is63 : compFn Try.prog 63 = some c63 := by kernel_rfl
theorem is64 : compFn Try.prog 64 = some c64 := by kernel_rfl
theorem is65 : compFn Try.prog 65 = some c65 := by kernel_rfl
theorem is66 : compFn Try.prog 66 = some c66 := by kernel_rfl
theorem is67 : compFn Try.prog 67 = some c67 := by kernel_rfl
theorem is68 : compFn Try.prog 68 = some c68 := by kernel_rfl
theorem is69 : compFn Try.prog 69 = some c69 := by kernel_rfl
theorem is70 : compFn Try.prog 70 = some c70 := by kernel_rfl
theorem is71 : compFn Try.prog 71 = some c71 := by kernel_rfl
theorem is72 : compFn Try.prog 72 = some c72 := by kernel_rfl
theorem is73 : compFn Try.prog 73 = some c73 := by kernel_rfl
theorem is74 : compFn Try.prog 74 = some c74 := by kernel_rfl
theorem is75 : compFn Try.prog 75 = some c75 := by kernel_rfl
theorem is76 : compFn Try.prog 76 = some c76 := by kernel_rfl
theorem is77 : compFn Try.prog 77 = some c77 := by kernel_rfl
theorem is78 : compFn Try.prog 78 = some c78 := by kernel_rfl
theorem is79 : compFn Try.prog 79 = some c79 := by kernel_rfl
theorem is80 : compFn Try.prog 80 = some c80 := by kernel_rfl
theorem is81 : compFn Try.prog 81 = some c81 := by kernel_rfl
theorem is82 : compFn Try.prog 82 = some c82 := by kernel_rfl
theorem is83 : compFn Try.prog 83 = some c83 := by kernel_rfl
theorem is84 : compFn Try.prog 84 = some c84 := by kernel_rfl
theorem is85 : compFn Try.prog 85 = some c85 := by kernel_rfl
theorem is86 : compFn Try.prog 86 = some c86 := by kernel_rfl
theorem is87 : compFn Try.prog 87 = some c87 := by kernel_rfl
theorem is88 : compFn Try.prog 88 = some c88 := by kernel_rfl
theorem is89 : compFn Try.prog 89 = some c89 := by kernel_rfl
theorem is90 : compFn Try.prog 90 = some c90 := by kernel_rfl
theorem is91 : compFn Try.prog 91 = some c91 := by kernel_rfl
theorem is92 : compFn Try.prog 92 = some c92 := by kernel_rfl
theorem is93 : compFn Try.prog 93 = some c93 := by kernel_rfl
theorem is94 : compFn Try.prog 94 = some c94 := by kernel_rfl
theorem is95 : compFn Try.prog 95 = some c95 := by kernel_rfl
theorem is96 : compFn Try.prog 96 = some c96 := by kernel_rfl
theorem is97 : compFn Try.prog 97 = some c97 := by kernel_rfl
theorem is98 : compFn Try.prog 98 = some c98 := by kernel_rfl
theorem is99 : compFn Try.prog 99 = some c99 := by kernel_rfl
theorem is100 : compFn Try.prog 100 = some c100 := by kernel_rfl
theorem is101 : compFn Try.prog 101 = some c101 := by kernel_rfl
theorem is102 : compFn Try.prog 102 = some c102 := by kernel_rfl
theorem is103 : compFn Try.prog 103 = some c103 := by kernel_rfl
theorem is104 : compFn Try.prog 104 = some c104 := by kernel_rfl
theorem is105 : compFn Try.prog 105 = some c105 := by kernel_rfl
theorem is106 : compFn Try.prog 106 = some c106 := by kernel_rfl
theorem is107 : compFn Try.prog 107 = some c107 := by kernel_rfl
theorem is108 : compFn Try.prog 108 = some c108 := by kernel_rfl
theorem is109 : compFn Try.prog 109 = some c109 := by kernel_rfl
theorem is110 : compFn Try.prog 110 = some c110 := by kernel_rfl
theorem is111 : compFn Try.prog 111 = some c111 := by kernel_rfl
theorem is112 : compFn Try.prog 112 = some c112 := by kernel_rfl
theorem is113 : compFn Try.prog 113 = some c113 := by kernel_rfl
theorem is114 : compFn Try.prog 114 = some c114 := by kernel_rfl
theorem is115 : compFn Try.prog 115 = some c115 := by kernel_rfl
theorem is116 : compFn Try.prog 116 = some c116 := by kernel_rfl
theorem is117 : compFn Try.prog 117 = some c117 := by kernel_rfl
theorem is118 : compFn Try.prog 118 = some c118 := by kernel_rfl
theorem mixed : Try.prog.follows .mixedOrders = true := Try.checked.mixed
theorem fokB : FOK Try.prog FB := by
  intro k fn h
  unfold FB at h
  split at h
  · cases h; exact .inl is10
  · cases h; exact .inl is16
  · cases h; exact .inl is20
  · cases h; exact .inl is33
  · cases h; exact .inl is38
  · cases h; exact .inl is40
  · cases h; exact .inl is41
  · cases h; exact .inl is42
  · cases h; exact .inl is44
  · cases h; exact .inl is45
  · cases h; exact .inl is46
  · cases h; exact .inl is47
  · cases h; exact .inl is52
  · cases h; exact .inl is68
  · cases h; exact .inl is69
  · cases h; exact .inl is70
  · cases h; exact .inl is71
  · cases h; exact .inl is72
  · cases h; exact .inl is73
  · cases h; exact .inl is74
  · cases h; exact .inl is75
  · cases h; exact .inl is76
  · cases h; exact .inl is77
  · cases h; exact .inl is78
  · cases h; exact .inl is79
  · cases h; exact .inl is80
  · cases h; exact .inl is81
  · cases h; exact .inl is93
  · cases h; exact .inl is94
  · cases h; exact .inl is95
  · cases h; exact .inl is96
  · cases h; exact .inl is97
  · cases h; exact .inl is105
  · cases h; exact .inl is106
  · cases h; exact .inl is107
  · cases h; exact .inl is108
  · cases h; exact .inl is109
  · cases h; exact .inl is110
  · cases h; exact .inl is111
  · cases h; exact .inl is112
  · cases h; exact .inl is113
  · cases h; exact .inl is114
  · cases h; exact .inl is115
  · cases h; exact .inl is116
  · cases h; exact .inl is117
  · cases h; exact .inl is118
  · cases h
theorem fokA : FOK Try.prog FA := by
  intro k fn h
  unfold FA at h
  split at h
  · cases h; exact .inr (.inl ⟨rfl, _, rfl, deferT_ok fokB mixed isD12 rfl⟩)
  · exact fokB _ _ h
end Go.Proofs.Ytlidnionbofkaaa.Hm
