-- Walks of the functions that a law reaches, one after the other: plain functions, and that the machine's calls come to what they tell (wip/tools/myprint.py of this repo).
import Derived.Test.YtcbomfkimohlfaaMFnExactComponentLinkingsx0
import Derived.Test.YtcbomfkimohlfaaMFnExactComponentLinkingsx1
import Derived.Test.YtcbomfkimohlfaaMFnExactComponentLinkingsx2
import Derived.Test.YtcbomfkimohlfaaMFnExactComponentLinkingsx3
import Derived.Test.YtcbomfkimohlfaaMFnExactComponentLinkingsx4
import Derived.Test.YtcbomfkimohlfaaMFnExactComponentLinkingsx5
import Derived.Test.YtcbomfkimohlfaaMFnExactComponentLinkingsx6
import Derived.Test.YtcbomfkimohlfaaMFnExactComponentLinkingsx7
import Derived.Test.YtcbomfkimohlfaaMFnExactComponentLinkingsx8
import Derived.Test.YtcbomfkimohlfaaMFnExactComponentLinkingsx9
import Derived.Test.YtcbomfkimohlfaaMFnExactComponentLinkingsx10
namespace Go.Proofs.Ytcbomfkimohlfaa.MFnExactComponentLinkings
open Go.RowKit Go.Proofs.YtcbomfkimohlfaaW.PrintWords Go.Proofs.YtcbomfkimohlfaaW.PrintLast Go.Proofs.YtcbomfkimohlfaaW.PrintMore
attribute [local go_sem] max2_int min2_int max_two min_two max_three min_three max_four min_four   -- for this text's walks alone
set_option linter.unusedVariables false
set_option linter.unusedSimpArgs false

end Go.Proofs.Ytcbomfkimohlfaa.MFnExactComponentLinkings
