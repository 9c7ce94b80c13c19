-- Walks of the functions that a law reaches, one after the other: plain functions, and that the machine's calls come to what they tell (wip/tools/myprint.py of this repo).
import Derived.Test.YtcbomfkimohlfaaMFnExactInverseMatrixx0
import Derived.Test.YtcbomfkimohlfaaMFnExactInverseMatrixx1
import Derived.Test.YtcbomfkimohlfaaMFnExactInverseMatrixx2
import Derived.Test.YtcbomfkimohlfaaMFnExactInverseMatrixx3
import Derived.Test.YtcbomfkimohlfaaMFnExactInverseMatrixx4
import Derived.Test.YtcbomfkimohlfaaMFnExactInverseMatrixx5
import Derived.Test.YtcbomfkimohlfaaMFnExactInverseMatrixx6
namespace Go.Proofs.Ytcbomfkimohlfaa.MFnExactInverseMatrix
open Go.RowKit Go.Proofs.YtcbomfkimohlfaaW.PrintWords Go.Proofs.YtcbomfkimohlfaaW.PrintLast Go.Proofs.YtcbomfkimohlfaaW.PrintMore
attribute [local go_sem] max2_int min2_int max_two min_two max_three min_three max_four min_four   -- for this text's walks alone
set_option linter.unusedVariables false
set_option linter.unusedSimpArgs false

end Go.Proofs.Ytcbomfkimohlfaa.MFnExactInverseMatrix
