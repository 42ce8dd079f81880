/- The pure statement of FileReads. -/
import Derived.Test.YtljjdkjmciheeaaKt
namespace Go.Proofs.Ytljjdkjmciheeaa.Pure
open Go.RowKit Go.Proofs.Ytljjdkjmciheeaa.P Go.Proofs.YtljjdkjmciheeaaW.PrintWords Go.Proofs.YtljjdkjmciheeaaW.PrintLast

theorem FileReads : custodianlaw_FileReads.Pure := fun a0 _ => fileReads_pure a0

end Go.Proofs.Ytljjdkjmciheeaa.Pure
