/- The chapter's example, as the law asks it. -/
import Derived.Test.YtcccambfcedakaaLxTok
import Derived.Test.YtcccambfcedakaaQAx6
namespace Go.Proofs.Ytcccambfcedakaa.Lx
open Go.RowKit Go.Proofs.Ytcccambfcedakaa.QA Go.Proofs.YtcccambfcedakaaW.PrintWords Go.Proofs.YtcccambfcedakaaW.PrintLast Oriel.Lx
theorem alive_some : oriellaw05_alive.f 60 = some true := by decide +kernel
end Go.Proofs.Ytcccambfcedakaa.Lx
