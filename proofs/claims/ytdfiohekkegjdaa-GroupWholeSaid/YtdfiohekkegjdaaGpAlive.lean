/- The chapter's example of groups. -/
import Derived.Test.YtdfiohekkegjdaaQIx6
namespace Go.Proofs.Ytdfiohekkegjdaa.Gp
open Go.RowKit Go.Proofs.Ytdfiohekkegjdaa.QI Go.Proofs.YtdfiohekkegjdaaW.PrintWords Go.Proofs.YtdfiohekkegjdaaW.PrintLast
set_option maxRecDepth 100000 in
theorem alive31 : Ev (fun k => oriellaw31_alive.f k) true := Ev.of (k := 60) (fun k => oriellaw31_alive.mono k) (by decide +kernel)
end Go.Proofs.Ytdfiohekkegjdaa.Gp
