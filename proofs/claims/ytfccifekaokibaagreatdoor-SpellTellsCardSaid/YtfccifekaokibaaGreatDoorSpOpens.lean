/- Files, as they come in. -/
import Derived.Test.YtfccifekaokibaaGreatDoorOpens
import Derived.Test.YtfccifekaokibaaGreatDoorQTx0
namespace Go.Proofs.YtfccifekaokibaaGreatDoor.Op
open Go.RowKit Go.Proofs.YtfccifekaokibaaGreatDoor.QT Go.Proofs.YtfccifekaokibaaGreatDoorW.PrintWords
theorem o_string : Opens Tryz.prog 9 Kd.string (fun s => s.size ≤ maxLen) := Opens.string Tryz.underlying9 (by kernel_rfl)
instance : Inhabited S41 := ⟨z41⟩
theorem c_file : Tryz.prog.cellsOf 41 = 2 := by kernel_rfl
theorem o_file : Opens Tryz.prog 41 k41 (fun f => f.f0.size ≤ maxLen ∧ f.f1.size ≤ maxLen) :=
  Opens.imp (Opens.iso (Opens.struct Tryz.underlying41 c_file (Rest.more rfl o_string (Rest.last rfl o_string)) rfl) (fun x : S41 => (x.f0, x.f1)) (fun a => ⟨a.1, a.2⟩) (fun _ => rfl)) (fun _ h => h)
theorem o_files : Opens Tryz.prog 22 (Kd.slice 41 k41) (fun l => ∀ f ∈ l, f.f0.size ≤ maxLen ∧ f.f1.size ≤ maxLen) := Opens.slice Tryz.underlying22 (by kernel_rfl) o_file
end Go.Proofs.YtfccifekaokibaaGreatDoor.Op

