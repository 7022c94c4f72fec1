/- Rows of texts, as they come in. -/
import Derived.Test.YtdfiohekkegjdaaOpens
import Derived.Test.YtdfiohekkegjdaaQIx0
namespace Go.Proofs.Ytdfiohekkegjdaa.Op
open Go.RowKit Go.Proofs.Ytdfiohekkegjdaa.QI Go.Proofs.YtdfiohekkegjdaaW.PrintWords
theorem o_string : Opens Try.prog 9 Kd.string (fun s => s.size ≤ maxLen) := Opens.string Try.underlying9 (by kernel_rfl)
theorem o_strings : Opens Try.prog 22 (Kd.slice 9 Kd.string) (fun l => ∀ s ∈ l, s.size ≤ maxLen) := Opens.slice Try.underlying22 (by kernel_rfl) o_string
end Go.Proofs.Ytdfiohekkegjdaa.Op
