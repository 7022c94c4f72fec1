/- Files, as they come in. -/
import Derived.Test.YtfccifekaokibaaDoorOpens
import Derived.Test.YtfccifekaokibaaDoorQFx0
namespace Go.Proofs.YtfccifekaokibaaDoor.Op
open Go.RowKit Go.Proofs.YtfccifekaokibaaDoor.QF Go.Proofs.YtfccifekaokibaaDoorW.PrintWords
theorem o_string : Opens Tryd.prog 9 Kd.string (fun s => s.size ≤ maxLen) := Opens.string Tryd.underlying9 (by kernel_rfl)
instance : Inhabited S29 := ⟨z29⟩
theorem c_file : Tryd.prog.cellsOf 29 = 2 := by kernel_rfl
theorem o_file : Opens Tryd.prog 29 k29 (fun f => f.f0.size ≤ maxLen ∧ f.f1.size ≤ maxLen) :=
  Opens.imp (Opens.iso (Opens.struct Tryd.underlying29 c_file (Rest.more rfl o_string (Rest.last rfl o_string)) rfl) (fun x : S29 => (x.f0, x.f1)) (fun a => ⟨a.1, a.2⟩) (fun _ => rfl)) (fun _ h => h)
theorem o_files : Opens Tryd.prog 22 (Kd.slice 29 k29) (fun l => ∀ f ∈ l, f.f0.size ≤ maxLen ∧ f.f1.size ≤ maxLen) := Opens.slice Tryd.underlying22 (by kernel_rfl) o_file
end Go.Proofs.YtfccifekaokibaaDoor.Op
