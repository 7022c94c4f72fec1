/- The law GraphOn: what one map carries, and another one carries on, is carried by both, one behind the other. No condition. -/
import Derived.Test.YthgjieigpfcekaaGrOpens
import Derived.Test.YthgjieigpfcekaaQGx21
namespace Go.Proofs.Ythgjieigpfcekaa.Pure
open Go.RowKit Go.Proofs.Ythgjieigpfcekaa.QG Go.Proofs.YthgjieigpfcekaaW.PrintWords Go.Proofs.YthgjieigpfcekaaW.PrintLast Go.Proofs.Ythgjieigpfcekaa.Gr
abbrev GGo := S51
theorem GraphOn (g h i : GGo) (m k : List Int) (_ : (∀ x ∈ g.f0, Op.wf x) ∧ (∀ p ∈ g.f1, Op.wf p.f0 ∧ Op.wf p.f1) ∧ ∀ x ∈ g.f2, Op.wf x) (_ : (∀ x ∈ h.f0, Op.wf x) ∧ (∀ p ∈ h.f1, Op.wf p.f0 ∧ Op.wf p.f1) ∧ ∀ x ∈ h.f2, Op.wf x)
    (_ : (∀ x ∈ i.f0, Op.wf x) ∧ (∀ p ∈ i.f1, Op.wf p.f0 ∧ Op.wf p.f1) ∧ ∀ x ∈ i.f2, Op.wf x) (hm : ∀ x ∈ m, Op.wf x) (hk : ∀ x ∈ k, Op.wf x) :
    ∃ n, oriellaw15_GraphOn.f n g.f0 g.f1 g.f2 h.f0 h.f1 h.f2 i.f0 i.f1 i.f2 m k = some true := by
  obtain ⟨n, hn⟩ := Ev.rounds alive15
  refine ⟨n, ?_⟩
  unfold oriellaw15_GraphOn.f
  rw [if_pos ⟨List.all_eq_true.2 hm, List.all_eq_true.2 hk, hn⟩]
end Go.Proofs.Ythgjieigpfcekaa.Pure
