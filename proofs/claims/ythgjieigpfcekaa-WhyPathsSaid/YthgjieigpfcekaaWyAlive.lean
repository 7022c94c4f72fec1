/- The chapter's example of paths. -/
import Derived.Test.YthgjieigpfcekaaWyEv
import Derived.Test.YthgjieigpfcekaaQWx4
namespace Go.Proofs.Ythgjieigpfcekaa.Gr
open Go.RowKit Go.Proofs.Ythgjieigpfcekaa.QW Go.Proofs.YthgjieigpfcekaaW.PrintWords Go.Proofs.YthgjieigpfcekaaW.PrintLast Go.Proofs.YthgjieigpfcekaaW.PrintMore
set_option linter.unusedVariables false
def exL : List PP := [⟨0, 1⟩, ⟨1, 2⟩]
theorem ex_near (a b : Int) : nearB exL a b ↔ (a = 0 ∧ b = 1) ∨ (a = 1 ∧ b = 0) ∨ (a = 1 ∧ b = 2) ∨ (a = 2 ∧ b = 1) := by
  unfold nearB exL
  constructor
  · rintro ⟨_, p, hp, h⟩
    rcases List.mem_cons.1 hp with rfl | hp
    · dsimp only at h
      omega
    · rw [List.mem_singleton.1 hp] at h
      dsimp only at h
      omega
  · rintro (⟨rfl, rfl⟩ | ⟨rfl, rfl⟩ | ⟨rfl, rfl⟩ | ⟨rfl, rfl⟩)
    · exact ⟨by decide, ⟨0, 1⟩, by simp, .inl ⟨rfl, rfl⟩⟩
    · exact ⟨by decide, ⟨0, 1⟩, by simp, .inr ⟨rfl, rfl⟩⟩
    · exact ⟨by decide, ⟨1, 2⟩, by simp, .inl ⟨rfl, rfl⟩⟩
    · exact ⟨by decide, ⟨1, 2⟩, by simp, .inr ⟨rfl, rfl⟩⟩
theorem ex_d : isD exL 0 2 2 := by
  refine ⟨⟨1, ⟨0, rfl, (ex_near 0 1).2 (.inl ⟨rfl, rfl⟩)⟩, (ex_near 1 2).2 (.inr (.inr (.inl ⟨rfl, rfl⟩)))⟩, fun m hm h => ?_⟩
  match m, hm with
  | 0, _ => exact absurd (show (0 : Int) = 2 from h) (by decide)
  | 1, _ =>
    obtain ⟨c, h1, h2⟩ := h
    have h1 : (0 : Int) = c := h1
    rw [← h1, ex_near] at h2
    omega
theorem ex_path : pathZ exL 2 2 0 = [0, 1, 2] := by
  obtain ⟨_, h2, h3⟩ := nextZ_spec ex_d
  have e1 : nextZ exL 2 1 0 = 1 := by
    rw [ex_near] at h2
    omega
  rw [e1] at h3
  obtain ⟨_, _, h5⟩ := nextZ_spec h3
  have e2 : nextZ exL 2 0 1 = 2 := h5.1
  rw [pathZ, e1, pathZ, e2]
  rfl
theorem alive32 : Ev (fun k => oriellaw32_alive.f k) true := by
  unfold oriellaw32_alive.f
  simp only [Option.bind_some]
  have hL : (exL).length ≤ 1000 := by decide
  have z1 : farZ exL 0 2 = 2 := farZ_some ex_d
  have z2 : farZ exL 2 0 = 2 := farZ_some (isD_symm ex_d)
  have p1 : pathV [0, 1, 2, 3] exL 0 2 = ([0, 1, 2], true) := by
    unfold pathV
    have r0 : rd [0, 1, 2, 3] 0 = 0 := rfl
    have r2 : rd [0, 1, 2, 3] 2 = 2 := rfl
    rw [r0, r2, z1, if_pos (by decide)]
    exact congrArg (fun l => (l, true)) ex_path
  have p2 : ∃ l, pathV [0, 1, 2, 3] exL 2 0 = (l, true) ∧ l.length = 3 := by
    unfold pathV
    have r0 : rd [0, 1, 2, 3] 0 = 0 := rfl
    have r2 : rd [0, 1, 2, 3] 2 = 2 := rfl
    rw [r0, r2, z2, if_pos (by decide)]
    exact ⟨_, rfl, pathZ_len _ _ _ _⟩
  obtain ⟨l2, p2, p3⟩ := p2
  have f1 := path_f [0, 1, 2, 3] exL [-1, -1, -1, -1] 0 2 (by decide) (by decide) hL
  have f2 := far_f [0, 1, 2, 3] exL [-1, -1, -1, -1] 2 0 (by decide) (by decide) hL
  rw [p1] at f1
  rw [p2] at f2
  dsimp only at f2
  rw [p3] at f2
  refine Ev.bind (a := (([0, 1, 2] : List Int), true)) (Ev.of (fun k => why_Path.mono _ _ _ _ _ k) f1) ?_
  refine Ev.bind (a := ((2 : Int), true)) (Ev.of (fun k => why_Far.mono _ _ _ _ _ k) f2) ?_
  simp only [if_true]
  refine Ev.bind (ints_ev [0, 1, 2] [0, 1, 2] (by simp)) ?_
  simp only [decide_true, if_true]
  have hr : why_Roots.f 20 [0, 1, 2, 3] exL [-1, -1, -1, -1] = some [0, 3] := by
    unfold why_Roots.f
    rw [if_pos (by simp)]
    have hu : rootsUp 20 [0, 1, 2, 3] exL [-1, -1, -1, -1] ([0, 1, 2, 3] : List Int).length = some [0, 0, 0, 3] := by decide
    rw [hu, Option.bind_some]
    congr 1
    refine riseI_ext _ _ (sortc_spec _).1 (by decide) fun x => ((sortc_spec _).2 x).trans ?_
    simp
  refine Ev.bind (a := ([0, 3] : List Int)) (Ev.of (fun k => why_Roots.mono _ _ _ k) hr) ?_
  refine Ev.bind (ints_ev [0, 3] [0, 3] (by simp)) ?_
  exact Ev.now _
end Go.Proofs.Ythgjieigpfcekaa.Gr
