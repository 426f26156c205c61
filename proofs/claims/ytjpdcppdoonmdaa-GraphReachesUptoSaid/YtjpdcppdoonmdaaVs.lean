/-
  PROVED HERE: the rule of the logic for a scope through which no jump goes.
  CONDITIONS: none. No statement of the seat is proved here.
-/
import Derived.Test.YtjpdcppdoonmdaaVi
import Derived.Scope
namespace Go.Proofs.Ytjpdcppdoonmdaa
open Go.RowKit
section scope
variable {P : Program} {β : Bs} {N : Nat} {fr : Fr} {hps : List HP} {Q : Post} {c : Code} {id : Nat}
theorem Tri.scope (h : Tri P β N c fr hps (Exit.noGoto Q)) : Tri P β N (.scope c) fr hps Q := fun junk w hS => wp_scope_straight (h junk w hS)
theorem TriQ.scopeNormal (h : TriQ β N Q .normal fr hps) : TriQ β N (Exit.noGoto Q) .normal fr hps := fun junk w hS => h junk w hS
theorem TriQ.scopeRet (h : TriQ β N Q .ret fr hps) : TriQ β N (Exit.noGoto Q) .ret fr hps := fun junk w hS => h junk w hS
theorem TriQ.scopeExit (h : TriQ β N Q (.exit id) fr hps) : TriQ β N (Exit.noGoto Q) (.exit id) fr hps := fun junk w hS => h junk w hS
end scope
end Go.Proofs.Ytjpdcppdoonmdaa
