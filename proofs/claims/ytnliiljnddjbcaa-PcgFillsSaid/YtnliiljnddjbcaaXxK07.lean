-- written by xprint.py (a program of this session, over the kit's print)
import Derived.Test.YtnliiljnddjbcaaXx0
namespace Go.Proofs.Ytnliiljnddjbcaa.X
open Go.RowKit Go.Proofs.YtnliiljnddjbcaaW.PrintWords Go.Proofs.YtnliiljnddjbcaaW.PrintLast Go.Proofs.YtnliiljnddjbcaaW.PrintMore
attribute [local go_sem] max2_int min2_int max_two min_two max_three min_three max_four min_four   -- for this text's walks alone
set_option linter.unusedVariables false
set_option linter.unusedSimpArgs false

-- NOT PRINTED: function 16 (penumbraref07_Gen_Step)

-- NOT PRINTED: function 6 (penumbraref07_New)

-- NOT PRINTED: function 7 (pcg_Gen_Below)

-- NOT PRINTED: function 8 (penumbraref07_Gen_Next)

-- NOT PRINTED: function 15 (pcg_Gen_step)

-- NOT PRINTED: function 5 (pcg_New)

-- NOT PRINTED: function 13 (pcg_Gen_Next)

-- NOT PRINTED: function 14 (pcg_Gen_Float)

-- NOT PRINTED: function 10 (pcg_Fill)

-- NOT PRINTED: function 11 (pcg_Gen_Skip)

-- NOT PRINTED: function 12 (pcg_Gen_State)

end Go.Proofs.Ytnliiljnddjbcaa.X
