-- written by xprint.py (a program of this session, over the kit's print)
import Derived.Test.YtkmdbidjdppdnaaXx0
namespace Go.Proofs.Ytkmdbidjdppdnaa.X
open Go.RowKit Go.Proofs.YtkmdbidjdppdnaaW.PrintWords Go.Proofs.YtkmdbidjdppdnaaW.PrintLast Go.Proofs.YtkmdbidjdppdnaaW.PrintMore
attribute [local go_sem] max2_int min2_int max_two min_two max_three min_three max_four min_four   -- for this text's walks alone
set_option linter.unusedVariables false
set_option linter.unusedSimpArgs false

-- NOT PRINTED: function 25 (pcg_Gen_Below)

-- NOT PRINTED: function 24 (pcg_Gen_step)

-- NOT PRINTED: function 12 (pcg_New)

-- NOT PRINTED: function 27 (penumbraref07_Gen_Step)

-- NOT PRINTED: function 26 (penumbraref07_Gen_Next)

-- NOT PRINTED: function 15 (penumbraref07_New)

end Go.Proofs.Ytkmdbidjdppdnaa.X
