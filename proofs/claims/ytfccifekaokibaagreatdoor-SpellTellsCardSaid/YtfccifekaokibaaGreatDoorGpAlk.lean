/- Likeness: the printed function comes to plain words. -/
import Derived.Test.YtfccifekaokibaaGreatDoorQTx11
import Derived.Test.YtfccifekaokibaaGreatDoorGpFacts
namespace Go.Proofs.YtfccifekaokibaaGreatDoor.Lx
open Go.RowKit Go.Proofs.YtfccifekaokibaaGreatDoor.QT Go.Proofs.YtfccifekaokibaaGreatDoorW.PrintWords Go.Proofs.YtfccifekaokibaaGreatDoorW.PrintLast Oriel.Lx
theorem alike_ev (a b : ByteArray) (ha : a.size ≤ 140737488351232) (hb : b.size ≤ 140737488351232) : Ev (fun k => name_Alike.f k a b) (alikeT a.data.toList b.data.toList) := by
  obtain ⟨K1, h1⟩ := kind_ev a ha
  obtain ⟨K2, h2⟩ := kind_ev b hb
  obtain ⟨K3, h3⟩ := level_ev a ha
  obtain ⟨K4, h4⟩ := level_ev b hb
  refine ⟨K1 + K2 + K3 + K4, fun k hk => ?_⟩
  simp only [name_Alike.f, h1 k (by omega), h2 k (by omega), h3 k (by omega), h4 k (by omega), Option.bind_some, alikeT]
  (repeat' split) <;> rfl
end Go.Proofs.YtfccifekaokibaaGreatDoor.Lx

