/- The program's constants are those of the document: every comparison of the law is between equal numbers. No condition. -/
import Derived.Test.YtiapfnpnfekknaaPx1
namespace Go.Proofs.Ytiapfnpnfekknaa.Pure
open Go.RowKit Go.Proofs.Ytiapfnpnfekknaa.P

theorem FnExactConstants : laws_FnExactConstants.Pure := by
  rfl

end Go.Proofs.Ytiapfnpnfekknaa.Pure
