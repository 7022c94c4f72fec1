/- The law WhyPaths: the way that the program tells, who is near, and which declarations are roots, is as the document says. No condition. -/
import Derived.Test.YthgjieigpfcekaaWyOpens
import Derived.Test.YthgjieigpfcekaaQWx21
namespace Go.Proofs.Ythgjieigpfcekaa.Pure
open Go.RowKit Go.Proofs.Ythgjieigpfcekaa.QW Go.Proofs.YthgjieigpfcekaaW.PrintWords Go.Proofs.YthgjieigpfcekaaW.PrintLast Go.Proofs.Ythgjieigpfcekaa.Gr
abbrev GGp := S51
theorem WhyPaths (g : GGp) (a b : Int) (hg : (∀ x ∈ g.f0, Op.wf x) ∧ (∀ p ∈ g.f1, Op.wf p.f0 ∧ Op.wf p.f1) ∧ ∀ x ∈ g.f2, Op.wf x) (_ : Op.wf a) (_ : Op.wf b) :
    ∃ k, oriellaw32_WhyPaths.f k g.f0 g.f1 g.f2 a b = some true := by
  obtain ⟨k, hk⟩ := Ev.rounds alive32
  have hokE : g.f0.all okI = true := by
    rw [List.all_eq_true]
    exact hg.1
  have hokL : okL g.f1 = true := by
    unfold okL
    rw [List.all_eq_true]
    intro p hp
    rw [Bool.and_eq_true]
    exact hg.2.1 p hp
  refine ⟨k, ?_⟩
  unfold oriellaw32_WhyPaths.f
  rw [if_pos ⟨hokE, hokL, hk⟩]
end Go.Proofs.Ythgjieigpfcekaa.Pure
