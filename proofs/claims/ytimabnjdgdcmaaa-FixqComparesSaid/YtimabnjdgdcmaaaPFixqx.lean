-- Written by a program for this seat's family Fixq (wip/tools of this session's repo).
import Derived.Test.YtimabnjdgdcmaaaPFixqx0
import Derived.Test.YtimabnjdgdcmaaaPFixqx1
import Derived.Test.YtimabnjdgdcmaaaPFixqx2
import Derived.Test.YtimabnjdgdcmaaaPFixqx3
import Derived.Test.YtimabnjdgdcmaaaPFixqx4
import Derived.Test.YtimabnjdgdcmaaaPFixqx5
import Derived.Test.YtimabnjdgdcmaaaPFixqx6
import Derived.Test.YtimabnjdgdcmaaaPFixqx7
import Derived.Test.YtimabnjdgdcmaaaPFixqx8
import Derived.Test.YtimabnjdgdcmaaaPFixqx9
namespace Go.Proofs.Ytimabnjdgdcmaaa.PFixq
open Go.RowKit Go.Proofs.YtimabnjdgdcmaaaW.PrintWords Go.Proofs.YtimabnjdgdcmaaaW.PrintLast Go.Proofs.YtimabnjdgdcmaaaW.PrintMore
attribute [local go_sem] max2_int min2_int max_two min_two max_three min_three max_four min_four   -- for this text's walks alone
set_option linter.unusedVariables false
set_option linter.unusedSimpArgs false

end Go.Proofs.Ytimabnjdgdcmaaa.PFixq
