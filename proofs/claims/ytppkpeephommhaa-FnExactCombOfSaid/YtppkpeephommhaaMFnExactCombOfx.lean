-- Walks of the functions that a law reaches, one after the other: plain functions, and that the machine's calls come to what they tell (wip/tools/myprint.py of this repo).
import Derived.Test.YtppkpeephommhaaMFnExactCombOfx0
import Derived.Test.YtppkpeephommhaaMFnExactCombOfx1
import Derived.Test.YtppkpeephommhaaMFnExactCombOfx2
import Derived.Test.YtppkpeephommhaaMFnExactCombOfx3
import Derived.Test.YtppkpeephommhaaMFnExactCombOfx4
import Derived.Test.YtppkpeephommhaaMFnExactCombOfx5
import Derived.Test.YtppkpeephommhaaMFnExactCombOfx6
import Derived.Test.YtppkpeephommhaaMFnExactCombOfx7
import Derived.Test.YtppkpeephommhaaMFnExactCombOfx8
import Derived.Test.YtppkpeephommhaaMFnExactCombOfx9
import Derived.Test.YtppkpeephommhaaMFnExactCombOfx10
namespace Go.Proofs.Ytppkpeephommhaa.MFnExactCombOf
open Go.RowKit Go.Proofs.YtppkpeephommhaaW.PrintWords Go.Proofs.YtppkpeephommhaaW.PrintLast Go.Proofs.YtppkpeephommhaaW.PrintMore
attribute [local go_sem] max2_int min2_int max_two min_two max_three min_three max_four min_four   -- for this text's walks alone
set_option linter.unusedVariables false
set_option linter.unusedSimpArgs false

end Go.Proofs.Ytppkpeephommhaa.MFnExactCombOf
