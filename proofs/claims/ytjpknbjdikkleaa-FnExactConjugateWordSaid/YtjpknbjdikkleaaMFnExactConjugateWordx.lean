-- Walks of the functions that a law reaches, one after the other: plain functions, and that the machine's calls come to what they tell (wip/tools/myprint.py of this repo).
import Derived.Test.YtjpknbjdikkleaaMFnExactConjugateWordx0
import Derived.Test.YtjpknbjdikkleaaMFnExactConjugateWordx1
import Derived.Test.YtjpknbjdikkleaaMFnExactConjugateWordx2
import Derived.Test.YtjpknbjdikkleaaMFnExactConjugateWordx3
import Derived.Test.YtjpknbjdikkleaaMFnExactConjugateWordx4
import Derived.Test.YtjpknbjdikkleaaMFnExactConjugateWordx5
namespace Go.Proofs.Ytjpknbjdikkleaa.MFnExactConjugateWord
open Go.RowKit Go.Proofs.YtjpknbjdikkleaaW.PrintWords Go.Proofs.YtjpknbjdikkleaaW.PrintLast Go.Proofs.YtjpknbjdikkleaaW.PrintMore
attribute [local go_sem] max2_int min2_int max_two min_two max_three min_three max_four min_four   -- for this text's walks alone
set_option linter.unusedVariables false
set_option linter.unusedSimpArgs false

end Go.Proofs.Ytjpknbjdikkleaa.MFnExactConjugateWord
