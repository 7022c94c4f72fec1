/- The law WhySteps: the way that the program tells is a way, and there is one just if the two are of one family. No condition. -/
import Derived.Test.YthgjieigpfcekaaWyOpens
import Derived.Test.YthgjieigpfcekaaQWx20
namespace Go.Proofs.Ythgjieigpfcekaa.Pure
open Go.RowKit Go.Proofs.Ythgjieigpfcekaa.QW Go.Proofs.YthgjieigpfcekaaW.PrintWords Go.Proofs.YthgjieigpfcekaaW.PrintLast Go.Proofs.Ythgjieigpfcekaa.Gr
abbrev GGw := S51
theorem WhySteps (g : GGw) (a b c : Int) (hg : (∀ x ∈ g.f0, Op.wf x) ∧ (∀ p ∈ g.f1, Op.wf p.f0 ∧ Op.wf p.f1) ∧ ∀ x ∈ g.f2, Op.wf x) (_ : Op.wf a) (_ : Op.wf b) (_ : Op.wf c) :
    ∃ k, oriellaw32_WhySteps.f k g.f0 g.f1 g.f2 a b c = some true := by
  obtain ⟨k, hk⟩ := Ev.rounds alive32
  have hokE : g.f0.all okI = true := by
    rw [List.all_eq_true]
    exact hg.1
  have hokL : okL g.f1 = true := by
    unfold okL
    rw [List.all_eq_true]
    intro p hp
    rw [Bool.and_eq_true]
    exact hg.2.1 p hp
  refine ⟨k, ?_⟩
  unfold oriellaw32_WhySteps.f
  rw [if_pos ⟨hokE, hokL, hk⟩]
end Go.Proofs.Ythgjieigpfcekaa.Pure
