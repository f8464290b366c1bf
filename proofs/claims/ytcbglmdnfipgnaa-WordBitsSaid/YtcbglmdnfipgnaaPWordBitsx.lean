-- Written by this session's wip/tools/hprint.py, over the kit's print and this session's own contracts.
import Derived.Test.YtcbglmdnfipgnaaPWordBitsx0
import Derived.Test.YtcbglmdnfipgnaaPWordBitsx1
import Derived.Test.YtcbglmdnfipgnaaPWordBitsx2
import Derived.Test.YtcbglmdnfipgnaaPWordBitsx3
import Derived.Test.YtcbglmdnfipgnaaPWordBitsx4
namespace Go.Proofs.Ytcbglmdnfipgnaa.PWordBits
open Go.RowKit Go.Proofs.YtcbglmdnfipgnaaW.PrintWords Go.Proofs.YtcbglmdnfipgnaaW.PrintLast Go.Proofs.YtcbglmdnfipgnaaW.PrintMore
attribute [local go_sem] max2_int min2_int max_two min_two max_three min_three max_four min_four   -- for this text's walks alone
set_option linter.unusedVariables false
set_option linter.unusedSimpArgs false

end Go.Proofs.Ytcbglmdnfipgnaa.PWordBits
