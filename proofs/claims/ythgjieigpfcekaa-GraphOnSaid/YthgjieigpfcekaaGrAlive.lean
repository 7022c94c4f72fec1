/- The chapter's example of graphs. -/
import Derived.Test.YthgjieigpfcekaaGrCarry
import Derived.Test.YthgjieigpfcekaaQGx8
namespace Go.Proofs.Ythgjieigpfcekaa.Gr
open Go.RowKit Go.Proofs.Ythgjieigpfcekaa.QG Go.Proofs.YthgjieigpfcekaaW.PrintWords Go.Proofs.YthgjieigpfcekaaW.PrintLast
theorem lkL_nil : lkL [] = [] := by
  unfold lkL
  have : lkRaw [] = [] := rfl
  rw [this, List.mergeSort_nil]
  rfl
theorem alive15 : Ev (fun k => oriellaw15_alive.f k) true := by
  unfold oriellaw15_alive.f alvE alvV alvO
  have h1 : ∀ k, graph_Right.f k [0, 0, 2] [] [-1, -1, -1] [⟨0, 0, 0, 1, true⟩, ⟨0, 0, 0, 1, false⟩, ⟨0, 0, 0, 1, true⟩] = some true := by
    intro k
    rw [right_f k _ _ _ _ (by simp)]
    unfold rightB
    rw [lkL_nil]
    decide
  simp only [h1, Option.bind_some]
  have h2 := family_ev [0, 0, 2] [] [-1, -1, -1] (by simp) (by simp) (by decide) (by decide) 1
  have h3 : famB [0, 0, 2] [] 1 = [0, 1] := by
    have hl : ∀ a b : Int, linkB [] a b = decide (a = b) := by
      intro a b
      rw [Bool.eq_iff_iff, linkB_iff, decide_eq_true_iff]
      constructor
      · intro h
        cases h with
        | refl => rfl
        | fwd p _ hp => cases hp
        | bwd p _ hp => cases hp
      · rintro rfl
        exact .refl
    unfold famB
    rw [if_pos (by simp), whereL_congr (q := fun i => decide (rd [0, 0, 2] 1 = rd [0, 0, 2] i)) (fun i => hl _ _)]
    decide
  rw [h3] at h2
  refine Ev.bind h2 ?_
  have h4 := ints_ev [0, 1] [0, 1] (by simp)
  refine Ev.bind h4 ?_
  have h5 : ∀ k, graph_Spare.f k [0, 0, 2] [] [-1, -1, -1] [⟨0, 0, 0, 1, true⟩, ⟨0, 0, 0, 1, false⟩, ⟨0, 0, 0, 1, true⟩] = some [2] := by
    intro k
    unfold graph_Spare.f
    rw [if_pos (by decide)]
    decide
  simp only [h5, Option.bind_some]
  refine Ev.bind (ints_ev [2] [2] (by simp)) ?_
  have h6 := carries_ev [0, 0, 2] [] [-1, -1, -1] [0, 0, 2] [] [-1, -1, -1] [0, 1, 2] (by simp) (by decide) (by simp)
  have h7 := carries_ev [0, 0, 2] [] [-1, -1, -1] [0, 0, 2] [] [-1, -1, -1] [2, 1, 0] (by simp) (by decide) (by simp)
  have hc : ∀ M : List Int, carL M [] = [] := fun _ => rfl
  have e6 : carB [0, 0, 2] [] [0, 0, 2] [] [0, 1, 2] = true := by
    unfold carB carV
    rw [hc, lkL_nil]
    decide
  have e7 : carB [0, 0, 2] [] [0, 0, 2] [] [2, 1, 0] = false := by
    unfold carB carV
    rw [hc, lkL_nil]
    decide
  rw [e6] at h6
  rw [e7] at h7
  refine Ev.bind h6 ?_
  refine Ev.bind h7 ?_
  exact Ev.step (f := fun _ => some true) (fun k => by rw [if_pos (by decide)]) (Ev.now _)
end Go.Proofs.Ythgjieigpfcekaa.Gr
