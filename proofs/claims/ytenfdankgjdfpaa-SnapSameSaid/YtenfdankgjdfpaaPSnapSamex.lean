-- PRINTED BY print.sh 35421559b90ae4d0a3588c463048766b98c2df88dd9212a6774a882060cdf62d: not written by this session
import Derived.Test.YtenfdankgjdfpaaPSnapSamex0
import Derived.Test.YtenfdankgjdfpaaPSnapSamex1
import Derived.Test.YtenfdankgjdfpaaPSnapSamex2
import Derived.Test.YtenfdankgjdfpaaPSnapSamex3
import Derived.Test.YtenfdankgjdfpaaPSnapSamex4
import Derived.Test.YtenfdankgjdfpaaPSnapSamex5
import Derived.Test.YtenfdankgjdfpaaPSnapSamex6
import Derived.Test.YtenfdankgjdfpaaPSnapSamex7
import Derived.Test.YtenfdankgjdfpaaPSnapSamex8
import Derived.Test.YtenfdankgjdfpaaPSnapSamex9
import Derived.Test.YtenfdankgjdfpaaPSnapSamex10
import Derived.Test.YtenfdankgjdfpaaPSnapSamex11
namespace Go.Proofs.Ytenfdankgjdfpaa.PSnapSame
open Go.RowKit Go.Proofs.YtenfdankgjdfpaaW.PrintWords Go.Proofs.YtenfdankgjdfpaaW.PrintLast Go.Proofs.YtenfdankgjdfpaaW.PrintMore
attribute [local go_sem] max2_int min2_int max_two min_two max_three min_three max_four min_four   -- for this text's walks alone
set_option linter.unusedVariables false
set_option linter.unusedSimpArgs false

end Go.Proofs.Ytenfdankgjdfpaa.PSnapSame
