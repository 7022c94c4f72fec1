/- Levels, spaces, likeness: the printed functions of package name come to plain words. -/
import Derived.Test.YtfccifekaokibaaGreatDoorQTx11
import Derived.Test.YtfccifekaokibaaGreatDoorLxName
namespace Oriel.Lx
def mayT (sp k : Int) : Bool := if sp = 1 then (if k = 6 then true else k == 9) else if sp = 3 then k == 6 else if sp = 2 then k == 7 else if sp = 4 then k == 7 else if sp = 5 then k == 7 else if sp = 6 then k == 7 else false
def levB (b : UInt8) : Int × Bool := if b = 42 ∨ b = 47 ∨ b = 37 then (7, false) else if b = 43 ∨ b = 45 then (6, false) else if b = 94 ∨ b = 64 ∨ b = 58 then (5, true) else if b = 61 ∨ b = 60 ∨ b = 62 ∨ b = 33 then (4, false) else if b = 38 ∨ b = 124 then (3, false) else (2, false)
def levT (l : T) : Int × Bool := if kindT l = 9 then (match l with | [] => (0, false) | b :: _ => levB b) else (0, false)
def alikeT (a b : T) : Bool := if kindT a = kindT b then (if kindT a = 9 then (if (levT a).1 = (levT b).1 then (levT a).2 == (levT b).2 else false) else if kindT a = 6 then true else if kindT a = 7 then true else false) else false
theorem alike_refl (a : T) : alikeT a a = (mayT 1 (kindT a) || mayT 2 (kindT a)) := by
  unfold alikeT mayT
  by_cases h9 : kindT a = 9
  · simp [h9]
  · by_cases h6 : kindT a = 6
    · simp [h6]
    · by_cases h7 : kindT a = 7
      · simp [h7]
      · simp [h9, h6, h7]
end Oriel.Lx
namespace Go.Proofs.YtfccifekaokibaaGreatDoor.Lx
open Go.RowKit Go.Proofs.YtfccifekaokibaaGreatDoor.QT Go.Proofs.YtfccifekaokibaaGreatDoorW.PrintWords Go.Proofs.YtfccifekaokibaaGreatDoorW.PrintLast Oriel.Lx
theorem level_ev (s : ByteArray) (hs : s.size ≤ 140737488351232) : Ev (fun k => name_Level.f k s) (levT s.data.toList) := by
  have hl := len s
  unfold name_Level.f
  refine Ev.bind (f := fun k (t : Int) => if t = 9 then (if 0 < (s.size : Int) then (if (bt s 0) = 42 then (name_Level.j0 k (bt s 0) ((bt s 0) == 42)) else (if (bt s 0) = 47 then (name_Level.j0 k (bt s 0) ((bt s 0) == 47)) else (name_Level.j0 k (bt s 0) ((bt s 0) == 37)))) else (none)) else (some (0, false))) (kind_ev s hs) ?_
  unfold levT
  by_cases h9 : kindT s.data.toList = 9
  · simp only [if_pos h9]
    rcases hd : s.data.toList with _ | ⟨b, r⟩
    · rw [hd] at h9
      exact absurd h9 (by decide)
    · have h0 := bt0 s b r hd
      have hsz : 0 < s.size := by rw [← hl, hd]; simp
      simp only [if_pos (show (0 : Int) < (s.size : Int) by omega), h0]
      refine Ev.of (k := 8) (fun k => LeO.ite ((name_Level.mono_l k).1 _ _) (LeO.ite ((name_Level.mono_l k).1 _ _) ((name_Level.mono_l k).1 _ _))) ?_
      refine all_bytes (P := fun b => (if (b.toNat : Int) = 42 then (name_Level.j0 8 (b.toNat : Int) ((b.toNat : Int) == 42)) else (if (b.toNat : Int) = 47 then (name_Level.j0 8 (b.toNat : Int) ((b.toNat : Int) == 47)) else (name_Level.j0 8 (b.toNat : Int) ((b.toNat : Int) == 37)))) = some (levB b)) ?_ b
      decide +kernel
  · simp only [if_neg h9]
    exact Ev.now _
end Go.Proofs.YtfccifekaokibaaGreatDoor.Lx

