-- Walks of the functions that a law reaches, one after the other: plain functions, and that the machine's calls come to what they tell (wip/tools/myprint.py of this repo).
import Derived.Test.YtifmdgffimckgaaMFnExactKrammerMatrixx0
import Derived.Test.YtifmdgffimckgaaMFnExactKrammerMatrixx1
import Derived.Test.YtifmdgffimckgaaMFnExactKrammerMatrixx2
import Derived.Test.YtifmdgffimckgaaMFnExactKrammerMatrixx3
import Derived.Test.YtifmdgffimckgaaMFnExactKrammerMatrixx4
import Derived.Test.YtifmdgffimckgaaMFnExactKrammerMatrixx5
import Derived.Test.YtifmdgffimckgaaMFnExactKrammerMatrixx6
import Derived.Test.YtifmdgffimckgaaMFnExactKrammerMatrixx7
import Derived.Test.YtifmdgffimckgaaMFnExactKrammerMatrixx8
import Derived.Test.YtifmdgffimckgaaMFnExactKrammerMatrixx9
import Derived.Test.YtifmdgffimckgaaMFnExactKrammerMatrixx10
namespace Go.Proofs.Ytifmdgffimckgaa.MFnExactKrammerMatrix
open Go.RowKit Go.Proofs.YtifmdgffimckgaaW.PrintWords Go.Proofs.YtifmdgffimckgaaW.PrintLast Go.Proofs.YtifmdgffimckgaaW.PrintMore
attribute [local go_sem] max2_int min2_int max_two min_two max_three min_three max_four min_four   -- for this text's walks alone
set_option linter.unusedVariables false
set_option linter.unusedSimpArgs false

end Go.Proofs.Ytifmdgffimckgaa.MFnExactKrammerMatrix
