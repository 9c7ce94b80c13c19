-- Walks of the functions that a law reaches, one after the other: plain functions, and that the machine's calls come to what they tell (wip/tools/myprint.py of this repo).
import Derived.Test.YtppkpeephommhaaMFnExactRelationsOfx0
import Derived.Test.YtppkpeephommhaaMFnExactRelationsOfx1
import Derived.Test.YtppkpeephommhaaMFnExactRelationsOfx2
import Derived.Test.YtppkpeephommhaaMFnExactRelationsOfx3
import Derived.Test.YtppkpeephommhaaMFnExactRelationsOfx4
import Derived.Test.YtppkpeephommhaaMFnExactRelationsOfx5
import Derived.Test.YtppkpeephommhaaMFnExactRelationsOfx6
namespace Go.Proofs.Ytppkpeephommhaa.MFnExactRelationsOf
open Go.RowKit Go.Proofs.YtppkpeephommhaaW.PrintWords Go.Proofs.YtppkpeephommhaaW.PrintLast Go.Proofs.YtppkpeephommhaaW.PrintMore
attribute [local go_sem] max2_int min2_int max_two min_two max_three min_three max_four min_four   -- for this text's walks alone
set_option linter.unusedVariables false
set_option linter.unusedSimpArgs false

end Go.Proofs.Ytppkpeephommhaa.MFnExactRelationsOf
