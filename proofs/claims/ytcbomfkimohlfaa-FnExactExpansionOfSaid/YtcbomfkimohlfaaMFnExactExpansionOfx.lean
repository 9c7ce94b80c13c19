-- Walks of the functions that a law reaches, one after the other: plain functions, and that the machine's calls come to what they tell (wip/tools/myprint.py of this repo).
import Derived.Test.YtcbomfkimohlfaaMFnExactExpansionOfx0
import Derived.Test.YtcbomfkimohlfaaMFnExactExpansionOfx1
import Derived.Test.YtcbomfkimohlfaaMFnExactExpansionOfx2
import Derived.Test.YtcbomfkimohlfaaMFnExactExpansionOfx3
import Derived.Test.YtcbomfkimohlfaaMFnExactExpansionOfx4
import Derived.Test.YtcbomfkimohlfaaMFnExactExpansionOfx5
import Derived.Test.YtcbomfkimohlfaaMFnExactExpansionOfx6
import Derived.Test.YtcbomfkimohlfaaMFnExactExpansionOfx7
import Derived.Test.YtcbomfkimohlfaaMFnExactExpansionOfx8
import Derived.Test.YtcbomfkimohlfaaMFnExactExpansionOfx9
import Derived.Test.YtcbomfkimohlfaaMFnExactExpansionOfx10
import Derived.Test.YtcbomfkimohlfaaMFnExactExpansionOfx11
import Derived.Test.YtcbomfkimohlfaaMFnExactExpansionOfx12
import Derived.Test.YtcbomfkimohlfaaMFnExactExpansionOfx13
import Derived.Test.YtcbomfkimohlfaaMFnExactExpansionOfx14
namespace Go.Proofs.Ytcbomfkimohlfaa.MFnExactExpansionOf
open Go.RowKit Go.Proofs.YtcbomfkimohlfaaW.PrintWords Go.Proofs.YtcbomfkimohlfaaW.PrintLast Go.Proofs.YtcbomfkimohlfaaW.PrintMore
attribute [local go_sem] max2_int min2_int max_two min_two max_three min_three max_four min_four   -- for this text's walks alone
set_option linter.unusedVariables false
set_option linter.unusedSimpArgs false

end Go.Proofs.Ytcbomfkimohlfaa.MFnExactExpansionOf
